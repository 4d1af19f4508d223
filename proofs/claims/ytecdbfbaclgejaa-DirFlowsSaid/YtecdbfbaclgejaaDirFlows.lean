/- The statement on the entries of flows, walked: it answers true at whatever flows and page, and what there was stands. -/
import Derived.Test.YtecdbfbaclgejaaDirGets
import Derived.Outline
namespace Go.Proofs.Ytecdbfbaclgejaa
open Go.RowKit

def otherOf (p : Int) (f : DFlow) : DEntry := ⟨f.key, f.data.length, List.replicate f.pages.length p⟩
theorem num_len (w n : Int) : (num w n).length = (wide w).toNat := by simp [num]
theorem flat_len (l : List Int) : ((l.map (num 2)).flatten).length = 2 * l.length := by
  induction l with
  | nil => rfl
  | cons x l ih =>
    have : (wide 2).toNat = 2 := by decide
    simp only [List.map_cons, List.flatten_cons, List.length_append, ih, num_len, this, List.length_cons]; omega
theorem ent_len (x : DEntry) : (entBytes x).length = 16 + 2 * x.pages.length := by
  have h1 : (wide 1).toNat = 1 := by decide
  have h2 : (wide 2).toNat = 2 := by decide
  have h4 : (wide 4).toNat = 4 := by decide
  have h8 : (wide 8).toNat = 8 := by decide
  simp only [entBytes, entHead, List.length_append, num_len, flat_len, h1, h2, h4, h8]
theorem dir_len (l : List DEntry) : (dirBytes l).length = 2 + ((l.map fun x => 16 + 2 * x.pages.length)).sum := by
  have h2 : (wide 2).toNat = 2 := by decide
  unfold dirBytes
  rw [List.length_append, num_len, h2, List.length_flatten, List.map_map]
  congr 2
  apply List.map_congr_left
  intro x _
  exact ent_len x
theorem other_len (p : Int) (l : List DFlow) : (dirBytes (l.map (otherOf p))).length = (dirBytes (l.map entryOf)).length := by
  rw [dir_len, dir_len, List.map_map, List.map_map]
  congr 2
  apply List.map_congr_left
  intro f _
  simp [otherOf, entryOf]
theorem sum_le (l : List Nat) (n : Nat) (h : ∀ x ∈ l, x ≤ n) : l.sum ≤ n * l.length := by
  induction l with
  | nil => simp
  | cons x l ih =>
    have h1 := ih (fun y hy => h y (by simp [hy]))
    have h2 := h x (by simp)
    simp only [List.sum_cons, List.length_cons, Nat.mul_succ]; omega
theorem much_facts {l : List DFlow} (h : muchFlows l = false) : l.length ≤ 20 ∧ ∀ f ∈ l, f.data.length ≤ 3000 ∧ f.pages.length ≤ 50 := by
  unfold muchFlows at h
  rw [Bool.or_eq_false_iff] at h
  have h1 : l.length ≤ 20 := by have := h.1; simp at this; exact this
  refine ⟨h1, fun f hf => ?_⟩
  have h2 := h.2
  rw [List.take_of_length_le (by omega)] at h2
  have h3 := List.any_eq_false.1 h2 f hf
  simp only [Bool.or_eq_true, decide_eq_true_eq] at h3
  omega
theorem entries_len {l : List DFlow} (h : l.length ≤ 20 ∧ ∀ f ∈ l, f.data.length ≤ 3000 ∧ f.pages.length ≤ 50) : (dirBytes (l.map entryOf)).length ≤ 100000 := by
  rw [dir_len, List.map_map]
  have h1 := sum_le (l.map ((fun x : DEntry => 16 + 2 * x.pages.length) ∘ entryOf)) 116 (fun x hx => by
    obtain ⟨f, hf, rfl⟩ := List.mem_map.1 hx
    have := (h.2 f hf).2
    simp only [Function.comp, entryOf]; omega)
  rw [List.length_map] at h1
  omega

set_option maxRecDepth 100000 in
set_option maxHeartbeats 2000000 in
/-- DirFlows -/
theorem dirFlows_calls {Q : Nat → Prop} {w : World} {v : Value} {l : List DFlow} {p : Int} (hx : rFlow.list.val Q w v l) (hp : (Lit.int .i64 p).wf = true) :
    Calls Try.prog 7 #[v, .int .i64 p] w fun e w' => e = .returned (.bool true) ∧ Below w.heap.size w w' := by
  have HX := Lib.hid hx
  have HPW := Lib.hid hp
  obtain ⟨A, c, rfl, hc1, hc2, hA⟩ := Rep.val_list hx
  unfold maxLen at hc2
  have HA := Lib.hid hA
  clear hx hA hp
  cases hm : muchFlows l with
  | true =>
    have HM := Lib.hid hm
    clear hm
    go_enter Try.func7, Try.ntmps7
    go_wp2_with (first | (go_at_call 38; refine (muchFlows_calls HX.out).mono ?_; rintro e w' ⟨rfl, rfl⟩; rw [HM.out]) | (go_at_call 32; refine (live25 _).mono ?_; rintro e w' ⟨rfl, hb⟩))
    go_ret
    exact ⟨rfl, hb⟩
  | false =>
    have HM := Lib.hid hm
    have HF := Lib.hid (much_facts hm)
    have hl20 : (l.length : Int) ≤ 20 := by have := HF.out.1; omega
    clear hm
    go_enter Try.func7, Try.ntmps7
    go_wp2_with (go_at_call 38; refine (muchFlows_calls HX.out).mono ?_; rintro e w' ⟨rfl, rfl⟩; rw [HM.out])
    refine (entries_calls HX.out (by omega) (fun f hf => ⟨by have := (HF.out.2 f hf).2; omega, by have := (HF.out.2 f hf).1; omega⟩)).mono ?_
    rintro e w1 ⟨u1, rfl, hu1, hb1⟩
    obtain ⟨xs, hxs⟩ : ∃ xs, xs = l.map entryOf := ⟨_, rfl⟩
    have HXS := Lib.hid hxs
    rw [← hxs] at hu1
    have HU1 := Lib.hid hu1
    have HB1 := Lib.hid hb1
    obtain ⟨A1, c1, rfl, hc3, hc4, hA1⟩ := Rep.val_list hu1
    unfold maxLen at hc4
    have HA1 := Lib.hid hA1
    have hne : ((xs.length : Int) != (l.length : Int)) = false := by rw [hxs]; simp
    have HLN := Lib.hid (show xs.length = l.length by rw [hxs]; simp)
    clear hu1 hb1 hA1 hxs
    go_wp2_with fail
    go_loopw [6, 7] (fun s i wr => ∃ k : Nat, i = .int .i64 k ∧ k ≤ l.length ∧ rEntry.acc 83 w1.heap.size (fun x => w1.heap.size ≤ x) wr s ((l.take k).map (otherOf p)) ∧ Below w1.heap.size w1 wr)
      (fun _ i _ => l.length - (intOf i).toNat)
    case atStart => exact ⟨0, rfl, by omega, by simpa using Rep.acc_nil, Below.refl _ _⟩
    case round =>
      obtain ⟨k, rfl, hk, hv, hb2⟩ := hrel
      have HB2 := Lib.hid hb2
      by_cases hlt : (k : Int) < l.length
      · have hk' : k < l.length := by omega
        have hkx : k < xs.length := by rw [HLN.out]; exact hk'
        obtain ⟨b, off, Ad, cd, Ap, cp, rfl, hbc, cx0, cx1, cx2, cx3, cx4, g0, g1, g2, hsd, hs⟩ := rFlow_at (HA.out.below (HB1.out.trans (hb2.mono HB1.out.size)) fun _ _ h => h.lt) (List.getElem?_eq_getElem hk')
        obtain ⟨b', off', Bp, dp, rfl, hbc', e0, e1, e2, e3, e4, k0, k1, k2, k3, hsx⟩ := rEntry_at (HA1.out.below hb2 fun _ _ h => h.lt) (List.getElem?_eq_getElem hkx)
        have hbw : b' < w1.heap.size := by
          obtain ⟨b2, o2, es, he, hq, hic, _⟩ := HA1.out.get (List.getElem?_eq_getElem hkx)
          cases he; exact hic.lt
        have hxk : xs[k] = entryOf l[k] := by
          have h1 := HXS.out
          subst h1
          simp
        have T := Lib.hid (show (l.take (k + 1)).map (otherOf p) = (l.take k).map (otherOf p) ++ [otherOf p l[k]] by
          rw [List.take_succ_eq_append_getElem hk', List.map_append]; rfl)
        have hpl := (HF.out.2 l[k] (List.getElem_mem hk')).2
        rw [hxk] at e0 e1 e2 e3 e4 k0 k1 k2 k3 hsx
        generalize l[k] = x at *
        simp only [entryOf] at e0 e1 e2 e3 e4 k0 k1 k2 k3 hsx
        have L2 := Lib.hid (show ((l.take k).map (otherOf p)).length + 1 ≤ maxLen ∧ (((l.take k).map (otherOf p)).length + 1) * 56 ≤ 140737488355328 by rw [List.length_map, List.length_take]; unfold maxLen; omega)
        generalize (l.take k).map (otherOf p) = q at *
        have GW := Lib.hid (And.intro k0 (And.intro k1 (And.intro k2 k3)))
        have hsl := hs.1
        have hsm := hs.2.1
        have hsl2 := hsx.1
        have hsm2 := hsx.2.1
        have hdl := hsd.1
        have hdm := hsd.2.1
        unfold maxLen at hsm hsm2 hdm
        have HSL := Lib.hid (show ∀ m, Calls Try.prog 47 #[.slice Bp x.pages.length dp, .slice Ap x.pages.length cp] (wr.drewN m) fun e w' => e = .returned (.bool true) ∧ ∃ n, w' = (wr.drewN m).drewN n from fun m => by
          have := sameList (hsx.drewN m).val (hs.drewN m).val
          rwa [decide_eq_true (rfl : x.pages = x.pages)] at this)
        have hqk := run_neq_key x.key x.key
        simp only [keyV] at hqk
        rw [show decide (x.key ≠ x.key) = false by simp] at hqk
        have hqg := keyGuard
        have j1 : (k : Int) < (xs.length : Int) := by omega
        have KS := Lib.hid (show ∀ W, Below w1.heap.size wr W → W.cell? ⟨b', off' + k * 5, none⟩ = some (.int .i64 x.key.kind) ∧ W.cell? ⟨b', off' + k * 5 + 1, none⟩ = some (.int .u64 x.key.sig) ∧ W.cell? ⟨b', off' + k * 5 + 2, none⟩ = some (.int .i64 x.key.comp) ∧ W.cell? ⟨b', off' + k * 5 + 3, none⟩ = some (.int .i64 x.data.length) ∧ W.cell? ⟨b', off' + k * 5 + 4, none⟩ = some (.slice Bp x.pages.length dp) from
          fun W h => ⟨(h.cell (p := ⟨b', off' + k * 5, none⟩) hbw).trans e0, (h.cell (p := ⟨b', off' + k * 5 + 1, none⟩) hbw).trans e1, (h.cell (p := ⟨b', off' + k * 5 + 2, none⟩) hbw).trans e2, (h.cell (p := ⟨b', off' + k * 5 + 3, none⟩) hbw).trans e3, (h.cell (p := ⟨b', off' + k * 5 + 4, none⟩) hbw).trans e4⟩)
        have HV := Lib.hid hv
        obtain ⟨A2, c2, rfl, _, _⟩ := Rep.acc_form hv
        clear hv hb2 g0 g1 g2 k0 k1 k2 k3 hs hsx hsd
        go_wp2_with fail
        go_quiet ((go_at_call 47; exact Calls.quiet_of (HSL.out _)))
        clear hqk hqg HSL cx0 cx1 cx2 cx3 cx4 e0 e1 e2 e3 e4
        have HB3 := Lib.hid (show Below w1.heap.size w1 (wr.drewN nq) from below_drewN HB2.out nq)
        have HV3 := Lib.hid (show rEntry.acc 83 w1.heap.size (fun x => w1.heap.size ≤ x) (wr.drewN nq) (.slice A2 q.length c2) q from Rep.acc_keep (w := wr) (w' := wr.drewN nq) (fun _ _ _ => rfl) (fun _ h _ => h) HV.out)
        have KS3 := Lib.hid (show ∀ W, Below w1.heap.size (wr.drewN nq) W → _ from fun W h => KS.out W ((below_drewN (Below.refl _ _) nq).trans h))
        clear KS HV HB2
        generalize wr.drewN nq = W3 at *
        obtain ⟨e0, e1, e2, e3, e4⟩ := KS3.out W3 (Below.refl _ _)
        go_wp2_with fail
        go_region_held3 (fun W => W.cell? ⟨b', off' + k * 5, none⟩ = some (.int .i64 x.key.kind) ∧ W.cell? ⟨b', off' + k * 5 + 1, none⟩ = some (.int .u64 x.key.sig) ∧ W.cell? ⟨b', off' + k * 5 + 2, none⟩ = some (.int .i64 x.key.comp) ∧ W.cell? ⟨b', off' + k * 5 + 3, none⟩ = some (.int .i64 x.data.length))
          (go_keep) (fail)
        rename_i hHeld
        clear hHeld
        go_wp2_with fail
        obtain ⟨bx, hbxe⟩ : ∃ bx, bx = W3.heap.size := ⟨_, rfl⟩
        obtain ⟨W4, hW4⟩ : ∃ W4, (W3.alloc (.cells #[.int .i64 x.key.kind, .int .u64 x.key.sig, .int .i64 x.key.comp, .int .i64 x.data.length, .slice none 0 0] 83)).drew = W4 := ⟨_, rfl⟩
        have hbx4 : W4.heap[bx]? = some (.cells #[.int .i64 x.key.kind, .int .u64 x.key.sig, .int .i64 x.key.comp, .int .i64 x.data.length, .slice none 0 0] 83 (0, 0)) := by rw [← hW4, hbxe]; exact heap_alloc_new W3 _
        have hb4 : Below bx W3 W4 := by rw [← hW4, hbxe]; exact ((Below.refl _ _).alloc (Nat.le_refl _) _).drew
        have hs4 : W4.heap.size = bx + 1 := by rw [← hW4, hbxe]; simp
        rw [hW4, ← hbxe]
        have HBXE := Lib.hid hbxe
        have HBX4 := Lib.hid hbx4
        have HB4 := Lib.hid hb4
        have HS4 := Lib.hid hs4
        have HBW := Lib.hid (show w1.heap.size ≤ bx by rw [hbxe]; exact HB3.out.size)
        clear hW4 hbx4 hb4 hs4 e0 e1 e2 e3 e4 hbxe
        go_loopw [9] (fun i wr => ∃ (j : Nat) (u : Value), i = .int .i64 j ∧ j ≤ x.pages.length ∧ wr.heap[bx]? = some (.cells #[.int .i64 x.key.kind, .int .u64 x.key.sig, .int .i64 x.key.comp, .int .i64 x.data.length, u] 83 (0, 0)) ∧ (Rep.int .i64).acc 3 (bx + 1) (fun _ => False) wr u (List.replicate j p) ∧ Below bx W3 wr ∧ bx + 1 ≤ wr.heap.size)
          (fun i _ => x.pages.length - (intOf i).toNat)
        case atStart => exact ⟨0, .slice none 0 0, rfl, by omega, HBX4.out, Rep.acc_nil, HB4.out, Nat.le_of_eq HS4.out.symm⟩
        case round =>
          obtain ⟨j, u, rfl, hj, hbx, hacc, hb6, hsz6⟩ := hrel
          have HBX6 := Lib.hid hbx
          have HB6 := Lib.hid hb6
          have HA6 := Lib.hid hacc
          obtain ⟨q6, hq6⟩ : ∃ q6, q6 = List.replicate j p := ⟨_, rfl⟩
          have HQ6 := Lib.hid hq6
          rw [← hq6] at hacc HA6
          obtain ⟨A6, c6, rfl, _, _⟩ := Rep.acc_form hacc
          obtain ⟨_, _, _, _, cx4⟩ := KS3.out wr (hb6.mono HBW.out)
          clear hbx hacc hb6 hq6
          by_cases hlt2 : (j : Int) < x.pages.length
          · have e4 := cell_row HBX6.out 4
            obtain ⟨q7, hq7⟩ : ∃ q7, q7 = q6 ++ [p] := ⟨_, rfl⟩
            have HQ7 := Lib.hid hq7
            have T2 := Lib.hid (show q7 = List.replicate (j + 1) p by rw [hq7, HQ6.out, List.replicate_succ'])
            have L := Lib.hid (show q6.length + 1 ≤ maxLen ∧ (q6.length + 1) * 8 ≤ 140737488355328 by rw [HQ6.out, List.length_replicate]; unfold maxLen; omega)
            clear hq7
            go_wp2_with (refine wpList_snoc (e := 3) (base := bx + 1) (Q := fun _ => False) (r := Rep.int .i64) rfl rfl _ _ 30 _ rfl rfl rfl (.int .i64 0) 1 8 Try.underlying30 info3 rfl (by decide) rfl _ q6 HA6.out p _ (by exact rfl) ⟨_, rfl, rfl, HPW.out⟩ (by exact rfl) (by exact rfl) L.out.1 L.out.2 hsz6 ?_; intro s7 w7 hacc7 hgr7 hat7; rw [← HQ7.out] at hacc7; have HA7 := Lib.hid hacc7; have HG7 := Lib.hid hgr7; obtain ⟨A7, c7, rfl, _, _⟩ := Rep.acc_form hacc7; have HBX7 := Lib.hid ((hgr7.block bx (by omega) (fun e => by have := (Rep.acc_own HA6.out _ e.symm).1; omega)).trans HBX6.out); clear hacc7 hgr7 hat7; have e4 := cell_row HBX7.out 4; have z4 := frozen_row HBX7.out 4)
            have hown7 := Rep.acc_own HA7.out
            exact ⟨⟨j + 1, _, by go_num, by omega, (heap_setRow HBX7.out).trans rfl,
              by rw [← T2.out]; exact Rep.acc_keep (fun b hb _ => Below.heap_setCell _ _ _ _ (by rcases hb with hb | hb; exact hb.elim; have := (hown7 b hb).1; show b ≠ bx; omega)) (fun _ h _ => h) HA7.out,
              (HB6.out.grown HG7.out (by omega) (fun k hk => by have := (Rep.acc_own HA6.out k hk).1; omega)).setCell (p := ⟨bx, 4, none⟩) (Nat.le_refl _) _, by have := HG7.out.size; simp; omega⟩, by simp [intOf]; omega⟩
          · obtain rfl : j = x.pages.length := by omega
            have e0 := cell_row HBX6.out 0
            have e1 := cell_row HBX6.out 1
            have e2 := cell_row HBX6.out 2
            have e3 := cell_row HBX6.out 3
            have e4 := cell_row HBX6.out 4
            have HV6 := Lib.hid (Rep.acc_later HV3.out (by rw [← HBXE.out]; exact HB6.out))
            have HO := Lib.hid (show ∀ b, (Value.slice A2 q.length c2).ownBlock = some b → b < bx from fun b hb => by have := (Rep.acc_own HV3.out b hb).2; rw [HBXE.out]; exact this)
            have HY := Lib.hid (show rEntry.val (fun b => w1.heap.size ≤ b ∧ (Value.slice A2 q.length c2).ownBlock ≠ some b) wr (.agg #[.int .i64 x.key.kind, .int .u64 x.key.sig, .int .i64 x.key.comp, .int .i64 x.data.length, .slice A6 q6.length c6]) (otherOf p x) by
              obtain ⟨A8, c8, he, h8⟩ := Rep.val_sl (Rep.acc_fresh HA6.out)
              cases he
              rw [HQ6.out] at h8 ⊢
              exact rEntry_agg (x := otherOf p x) GW.out.1 GW.out.2.1 GW.out.2.2.1 GW.out.2.2.2 (h8.keep fun b hb _ => ⟨⟨by have := HBW.out; omega, fun e => by have := HO.out b e; omega⟩, rfl⟩))
            have HB7 := Lib.hid (HB3.out.trans (HB6.out.mono HBW.out))
            clear hsz6
            go_wp2_with (refine wpList_snoc (e := 83) (base := w1.heap.size) (Q := fun b => w1.heap.size ≤ b) (r := rEntry) rfl rfl _ _ 52 _ rfl rfl rfl (.agg #[.int .i64 0, .int .u64 0, .int .i64 0, .int .i64 0, .slice none 0 0]) 5 56 Try.underlying52 infoEntry rfl (by decide) rfl _ q HV6.out (otherOf p x) _ (by exact rfl) HY.out (by exact rfl) (by exact rfl) L2.out.1 L2.out.2 HB7.out.size ?_; intro s8 w8 hacc8 hgr8 hat8)
            exact ⟨⟨k + 1, by go_num, by omega, by rw [T.out]; exact hacc8, Rep.acc_below HV6.out HB7.out hgr8 HB7.out.size⟩, by simp [intOf]; omega⟩
      · obtain rfl : k = l.length := by omega
        rw [List.take_length] at hv
        obtain ⟨q, hq⟩ : ∃ q, q = l.map (otherOf p) := ⟨_, rfl⟩
        have HQ := Lib.hid hq
        rw [← hq] at hv
        have HV := Lib.hid (show rEntry.list.val (fun b => w1.heap.size ≤ b) wr u6 q from Rep.val_mono (fun b hb _ => by
          rcases hb with hb | hb
          · exact hb
          · exact (Rep.acc_own hv b hb).1) (Rep.acc_val hv))
        have HU2 := Lib.hid (Rep.val_below HU1.out hb2 fun _ _ h => h.lt)
        have HBA := Lib.hid (HB1.out.trans (hb2.mono HB1.out.size))
        have LX := Lib.hid (show (dirBytes xs).length ≤ 100000 by rw [HXS.out]; exact entries_len HF.out)
        have LE := Lib.hid (show (dirBytes q).length = (dirBytes xs).length by rw [HQ.out, HXS.out]; exact other_len p l)
        have LQ := Lib.hid (show q.length ≤ 100000000 by rw [HQ.out, List.length_map]; have := HF.out.1; omega)
        clear hv hb2 hq
        go_wp2_with fail
        refine (dsize_calls HV.out (by rw [LE.out]; have := LX.out; omega) LQ.out).mono ?_
        rintro e w5 ⟨rfl, hb5⟩
        rw [LE.out]
        have HU3 := Lib.hid (Rep.val_below HU2.out hb5 fun _ _ h => h.lt)
        have HBB := Lib.hid (HBA.out.trans (hb5.mono HBA.out.size))
        clear hb5
        go_wp2_with fail
        refine (dsize_calls HU3.out (by have := LX.out; omega) (by have := HLN.out; have := HF.out.1; omega)).mono ?_
        rintro e w6 ⟨rfl, hb6⟩
        generalize (dirBytes xs).length = N at *
        go_wp2_with (go_at_call 32; refine (live25 _).mono ?_; rintro e w7 ⟨rfl, hb7⟩)
        go_ret
        have hBC := HBB.out.trans (hb6.mono HBB.out.size)
        exact ⟨rfl, hBC.trans (hb7.mono hBC.size)⟩
end Go.Proofs.Ytecdbfbaclgejaa
