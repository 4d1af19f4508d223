/- Texts on which the proofs stand: StoreReach, StoreHeld, StoreNil. No condition is laid on any input. -/
import Derived.Test.YtghbfbohnoebiaaGreatSnG4
import Derived.Test.YtghbfbohnoebiaaGreatSnG38
import Derived.Test.YtghbfbohnoebiaaGreatSnG39
import Derived.Test.YtghbfbohnoebiaaGreatSnG40
import Derived.Lib.OwnBridge
import Derived.Lib.SlicesCompact
namespace Go.Proofs.YtghbfbohnoebiaaGreat
open Go.RowKit

theorem compact_mem {ks : List Int} {x : Int} (h : x ∈ Lib.compact ks) : x ∈ ks := by
  unfold Lib.compact Lib.compactUpTo at h
  obtain ⟨j, hj, rfl⟩ := List.mem_map.1 h
  have hl : j < ks.length := List.mem_range.1 (List.mem_filter.1 hj).1
  have e : ks.toArray[j]! = ks[j] := by simp [hl]
  rw [e]
  exact List.getElem_mem hl
theorem compact_le (ks : List Int) : (Lib.compact ks).length ≤ ks.length := by
  unfold Lib.compact Lib.compactUpTo
  rw [List.length_map]
  exact Nat.le_trans (List.length_filter_le _ _) (by simp)
/-- slices.Compact of numbers of the call's own: they stay so. -/
theorem compactAcc_calls {base : Nat} {Q : Nat → Prop} {w : World} {v : Value} {ks : List Int} (h : (Rep.int .i64).acc 3 base Q w v ks) (hl : ks.length ≤ 1000000000000) :
    Calls Tryz.prog 62 #[v] w fun e w' => ∃ v', e = .returned v' ∧ (Rep.int .i64).acc 3 base Q w' v' (Lib.compact ks) ∧ Below base w w' := by
  obtain ⟨cells, h1, h2⟩ := h
  obtain ⟨rfl, hwf⟩ := int_row.1 h2
  have h1' := h1
  rcases h1.2 with ⟨rfl, h0⟩ | ⟨g, cap, cur, rfl, hb, hg, g1, g2, g3, g4⟩
  · have : ks = [] := List.eq_nil_of_length_eq_zero (by omega)
    subst this
    refine (Tryz.slices_Compact_int_empty none 0 w).mono ?_
    rintro e w' ⟨rfl, rfl⟩
    exact ⟨_, rfl, Rep.acc_nil, Below.refl _ _⟩
  · refine (Tryz.slices_Compact_int g 0 cap ks w (holds_of_blockI hg (by simpa [Rep.int] using g4)) (by omega) g1).mono ?_
    rintro e w' ⟨rfl, n, rfl⟩
    have hle := compact_le ks
    have h3 := Lib.ownsRow_putRow (q := n) (k := (Lib.compact ks).length) (ys := Lib.compact ks ++ List.replicate (ks.length - (Lib.compact ks).length) 0) h1' (by simp; omega) hle
    rw [List.take_left] at h3
    exact ⟨_, rfl, ⟨_, h3, int_row.2 ⟨rfl, fun x hx => hwf x (compact_mem hx)⟩⟩, Lib.below_putRow (Below.refl _ _) hb⟩

set_option maxRecDepth 100000 in
set_option maxHeartbeats 1000000 in
/-- store.reach -/
theorem reach_calls {Q Q' : Nat → Prop} {W : World} {v u : Value} {fl : List DFlow} {x : DSuper} (hx : rFlow.list.val Q W v fl) (hu : rSuper.val Q' W u x) (ho : FlowsOk fl) (hd : x.dir.length ≤ 1000000) :
    Calls Tryz.prog 55 #[v, u] W (ResA (Rep.int .i64) 3 W (reachOf fl x)) := by
  obtain ⟨Ad, cd, rfl, _, _, _, _, _, _, _, sd⟩ := rSuper_val hu
  obtain ⟨Af, cf, rfl, _, _, _⟩ := Rep.val_list hx
  obtain ⟨W1, hW1⟩ : ∃ W1, W.alloc (.cells #[.int .i64 x.epoch, .int .i64 x.gen, .int .i64 x.log, .int .i64 x.pages, .int .i64 x.head, .int .i64 x.seq, .int .i64 x.long, .slice Ad x.dir.length cd] 37) = W1 := ⟨_, rfl⟩
  have hb1 : Below W.heap.size W W1 := by rw [← hW1]; exact (Below.refl _ _).alloc (Nat.le_refl _) _
  have hr1 : W1.heap[W.heap.size]? = some (.cells #[.int .i64 x.epoch, .int .i64 x.gen, .int .i64 x.log, .int .i64 x.pages, .int .i64 x.head, .int .i64 x.seq, .int .i64 x.long, .slice Ad x.dir.length cd] 37 (0, 0)) := by rw [← hW1]; exact heap_alloc_new _ _
  have HB1 := Lib.hid hb1
  have HR1 := Lib.hid hr1
  have HX := Lib.hid (show ∀ V, Below W1.heap.size W1 V → rFlow.list.val (fun b => b < V.heap.size) V (.slice Af fl.length cf) fl from fun V hb => Rep.val_keep (fun b _ hl => ⟨Nat.lt_of_lt_of_le hl.lt (Nat.le_trans hb1.size hb.size), (hb.block b (Nat.lt_of_lt_of_le hl.lt hb1.size)).trans (hb1.block b hl.lt)⟩) hx)
  have HDV := Lib.hid (show ∀ V, Below W1.heap.size W1 V → (Rep.int .i64).list.val (fun _ => True) V (.slice Ad x.dir.length cd) x.dir from fun V hb => Rep.val_keep (fun b _ hl => ⟨trivial, (hb.block b (Nat.lt_of_lt_of_le hl.lt hb1.size)).trans (hb1.block b hl.lt)⟩) sd.val)
  have HO := Lib.hid ho
  have HDL := Lib.hid hd
  have HPL := Lib.hid (pagesOf_len (l := fl) (fun f hf => Nat.le_trans (ho.2 f hf).1 (by decide)))
  have HFL := Lib.hid ho.1
  clear hx hu ho hd sd hb1 hr1
  go_enter Tryz.func55, Tryz.ntmps55
  go_wp2_with fail
  try rw [hW1]
  clear hW1
  refine wp_region_held_drew (S := fun V => Below W1.heap.size W1 V) (by kernel_rfl) ((Below.refl _ _).drew) (fun s0 => ?_)
  obtain ⟨v1, hv1⟩ : ∃ V, V = W1.drew := ⟨_, rfl⟩
  rw [← hv1] at s0 ⊢
  have t1 : Below W1.heap.size W1 v1 := s0
  clear hv1 s0
  refine tkHV (i := 0) (v := .slice Af fl.length cf) rfl t1 ?_
  go_simp
  refine tkHV (i := 2) (v := .pointer (some ⟨W.heap.size, 7, none⟩)) rfl t1 ?_
  go_simp
  refine tkH (i := 3) (v := .slice Ad x.dir.length cd) rfl (Or.inl ⟨by rfl, fun w' h => by have e := row_call (h : Below W1.heap.size W1 w') HR1.out; have e7 := cell_row e 7; go_simp⟩) t1 ?_
  go_simp
  refine wpAnyH_all (rs := [1]) (by kernel_rfl) (by simp) ?_
  intro i2 hi2
  obtain rfl : i2 = 1 := by simpa using hi2
  clear hi2
  refine wpOp_step rfl (fun K hK => ?_)
  go_simp
  refine (pages_calls (HX.out _ t1) (fun f hf => Nat.le_trans (HO.out.2 f hf).1 (by decide)) (Nat.le_trans HFL.out (by decide))).mono ?_
  rintro e v2 ⟨u2, rfl, hacc2, hb2⟩
  have t2 : Below W1.heap.size W1 v2 := t1.trans (hb2.mono t1.size)
  have HA2 := Lib.hid hacc2
  obtain ⟨A2, c2, rfl, _, _⟩ := Rep.acc_form hacc2
  have HZ2 := Lib.hid hb2.size
  have HOW := Lib.hid (show ∀ b, (Value.slice A2 (pagesOf fl).length c2).ownBlock = some b → W1.heap.size ≤ b from fun b hb => by have := (Rep.acc_own hacc2 b hb).1; have := t1.size; omega)
  clear hb2 hacc2
  refine hK _ _ ⟨t2, ?_⟩
  clear hK K
  refine wpAnyH_all (rs := [4]) (by kernel_rfl) (by simp) ?_
  intro i2 hi2
  obtain rfl : i2 = 4 := by simpa using hi2
  clear hi2
  refine wpOp_step rfl (fun K hK => ?_)
  have HSZ := Lib.hid (show W1.heap.size ≤ v1.heap.size from Nat.le_of_not_lt fun h => by have := t1.size; omega)
  refine step_spread_leaf (e := 3) (base := W1.heap.size) (Q := fun _ => False) (Rep.leaf_int .i64) rfl _ _ 35 rfl (.int .i64 0) 1 8 Tryz.underlying35 infoI3 rfl (by decide) rfl _ (pagesOf fl) (by exact rfl) (Rep.acc_base HSZ.out HA2.out) _ x.dir (by exact rfl) (HDV.out _ t2) (by have := HPL.out; have := HFL.out; have := HDL.out; unfold maxLen; omega) (by have := HPL.out; have := HFL.out; have := HDL.out; omega) t2.size ?_
  intro s3 w3 hacc3 hgr3 hat3
  have t3 : Below W1.heap.size W1 w3 := Rep.acc_below (Rep.acc_base HSZ.out HA2.out) t2 hgr3 t2.size
  have HA3 := Lib.hid (show (Rep.int .i64).acc 3 W1.heap.size (fun _ => False) w3 s3 (reachOf fl x) from hacc3)
  obtain ⟨A3, c3, rfl, _, _⟩ := Rep.acc_form HA3.out
  clear hgr3 hat3 hacc3
  refine hK _ _ ⟨t3, ?_⟩
  clear hK K
  obtain ⟨nr, hnr⟩ : ∃ nr, (reachOf fl x).length = nr := ⟨_, rfl⟩
  rw [hnr]
  have HNR := Lib.hid hnr
  clear hnr
  go_simp

  refine tkHV (i := 5) (v := .slice A3 nr c3) rfl t3 ?_
  go_simp
  refine wpAnyH_done (by kernel_rfl) ?_ _
  go_wp2_with fail
  go_ret
  exact ⟨_, rfl, by rw [← HNR.out]; exact Rep.acc_base HB1.out.size HA3.out, HB1.out.trans (t3.mono HB1.out.size)⟩
end Go.Proofs.YtghbfbohnoebiaaGreat
namespace Go.Proofs.YtghbfbohnoebiaaGreat
open Go.RowKit

/-- The pages of both superblocks. -/
def heldOf (x : StSt) : List Int := Lib.compact ((reachOf x.flows x.cur ++ x.other).mergeSort fun a b => decide (a ≤ b))
/-- The cells of a store's superblock. -/
def superAgg (x : DSuper) (Ad : Option Addr) (cd : Nat) : Value := .agg #[.int .i64 x.epoch, .int .i64 x.gen, .int .i64 x.log, .int .i64 x.pages, .int .i64 x.head, .int .i64 x.seq, .int .i64 x.long, .slice Ad x.dir.length cd]
/-- What lies behind a store's cells. -/
structure StoreVals (Q : Nat → Prop) (W : World) (x : StSt) (Ad : Option Addr) (cd : Nat) (Af : Option Addr) (cf : Nat) (Ao : Option Addr) (co : Nat) : Prop where
  cur : rSuper.val Q W (superAgg x.cur Ad cd) x.cur
  flows : rFlow.Sl Q W Af cf x.flows
  other : (Rep.int .i64).Sl Q W Ao co x.other
theorem StoreVals.keep {Q Q' : Nat → Prop} {W W' : World} {x : StSt} {Ad : Option Addr} {cd : Nat} {Af : Option Addr} {cf : Nat} {Ao : Option Addr} {co : Nat} (h : StoreVals Q W x Ad cd Af cf Ao co) (hk : ∀ b, Q b → IsC W b → Q' b ∧ W'.heap[b]? = W.heap[b]?) : StoreVals Q' W' x Ad cd Af cf Ao co :=
  ⟨Rep.val_keep hk h.cur, Rep.Sl.keep hk h.flows, Rep.Sl.keep hk h.other⟩
/-- A store's lists are bounded. -/
structure StoreOk (x : StSt) : Prop where
  flows : FlowsOk x.flows
  dir : x.cur.dir.length ≤ 1000
  other : x.other.length ≤ 10000000

set_option maxRecDepth 100000 in
set_option maxHeartbeats 1000000 in
/-- store.Held -/
theorem sheld_calls {Q : Nat → Prop} {W : World} {S A : Nat} {d : Value} {x : StSt} {Ad : Option Addr} {cd : Nat} {Af : Option Addr} {cf : Nat} {Ao : Option Addr} {co : Nat} (hS : StoreRow W S d x A Ad cd Af cf Ao co) (hv : StoreVals Q W x Ad cd Af cf Ao co) (hok : StoreOk x) :
    Calls Tryz.prog 18 #[.pointer (some ⟨S, 0, none⟩)] W (ResA (Rep.int .i64) 3 W (heldOf x)) := by
  have HS := Lib.hid (show ∀ V, Below W.heap.size W V → StoreRow V S d x A Ad cd Af cf Ao co from fun V hb => row_call hb hS)
  have HV := Lib.hid (show ∀ V, Below W.heap.size W V → StoreVals Q V x Ad cd Af cf Ao co from fun V hb => hv.keep fun b hq hl => ⟨hq, hb.block b hl.lt⟩)
  have HOK := Lib.hid hok
  have HOL := Lib.hid hok.other
  have hrl : (reachOf x.flows x.cur).length ≤ 6001000 := by
    unfold reachOf
    rw [List.length_append]
    have h1 := pagesOf_len (l := x.flows) (fun f hf => Nat.le_trans (hok.flows.2 f hf).1 (by decide))
    have h2 := hok.flows.1
    have h3 := hok.dir
    omega
  have HRL := Lib.hid hrl
  clear hS hv hok hrl
  go_enter Tryz.func18, Tryz.ntmps18
  go_wp2_with fail
  refine wp_region_held_drew (S := fun V => Below W.heap.size W V) (by kernel_rfl) ((Below.refl _ _).drew) (fun s0 => ?_)
  obtain ⟨v1, hv1⟩ : ∃ V, V = W.drew := ⟨_, rfl⟩
  rw [← hv1] at s0 ⊢
  have t1 : Below W.heap.size W v1 := s0
  clear hv1 s0
  refine tkHV (i := 0) (v := .pointer (some ⟨S, 0, none⟩)) rfl t1 ?_
  go_simp
  refine tkHV (i := 1) (v := .pointer (some ⟨S, 0, none⟩)) rfl t1 ?_
  go_simp
  refine tkHV (i := 2) (v := .pointer (some ⟨S, 16, none⟩)) rfl t1 ?_
  go_simp
  refine tkH (i := 3) (v := .slice Af x.flows.length cf) rfl (Or.inl ⟨by rfl, fun w' h => by have e := HS.out w' h; unfold StoreRow at e; have e16 := cell_row e 16; go_simp⟩) t1 ?_
  go_simp
  refine tkHV (i := 4) (v := .pointer (some ⟨S, 0, none⟩)) rfl t1 ?_
  go_simp
  refine tkHV (i := 5) (v := .pointer (some ⟨S, 0, none⟩)) rfl t1 ?_
  go_simp
  refine tkHV (i := 6) (v := .pointer (some ⟨S, 8, none⟩)) rfl t1 ?_
  go_simp
  refine tkH (i := 7) (v := .agg #[.int .i64 x.cur.epoch, .int .i64 x.cur.gen, .int .i64 x.cur.log, .int .i64 x.cur.pages, .int .i64 x.cur.head, .int .i64 x.cur.seq, .int .i64 x.cur.long, .slice Ad x.cur.dir.length cd]) rfl (Or.inl ⟨by rfl, fun w' h => by have e := HS.out w' h; unfold StoreRow at e; have e8 := cell_row e 8; have e9 := cell_row e 9; have e10 := cell_row e 10; have e11 := cell_row e 11; have e12 := cell_row e 12; have e13 := cell_row e 13; have e14 := cell_row e 14; have e15 := cell_row e 15; go_simp⟩) t1 ?_
  go_simp
  refine tkHV (i := 9) (v := .pointer (some ⟨S, 0, none⟩)) rfl t1 ?_
  go_simp
  refine tkHV (i := 10) (v := .pointer (some ⟨S, 0, none⟩)) rfl t1 ?_
  go_simp
  refine tkHV (i := 11) (v := .pointer (some ⟨S, 17, none⟩)) rfl t1 ?_
  go_simp
  refine tkH (i := 12) (v := .slice Ao x.other.length co) rfl (Or.inl ⟨by rfl, fun w' h => by have e := HS.out w' h; unfold StoreRow at e; have e17 := cell_row e 17; go_simp⟩) t1 ?_
  go_simp
  refine wpAnyH_all (rs := [8]) (by kernel_rfl) (by simp) ?_
  intro i2 hi2
  obtain rfl : i2 = 8 := by simpa using hi2
  clear hi2
  refine wpOp_step rfl (fun K hK => ?_)
  go_simp
  refine (reach_calls (HV.out _ t1).flows.val (HV.out _ t1).cur HOK.out.flows (Nat.le_trans HOK.out.dir (by decide))).mono ?_
  rintro e v2 ⟨u2, rfl, hacc2, hb2⟩
  have t2 : Below W.heap.size W v2 := t1.trans (hb2.mono t1.size)
  obtain ⟨r, hr⟩ : ∃ r, reachOf x.flows x.cur = r := ⟨_, rfl⟩
  rw [hr] at hacc2 HRL
  have HR := Lib.hid hr
  have HA2 := Lib.hid (show (Rep.int .i64).acc 3 W.heap.size (fun _ => False) v2 u2 r from Rep.acc_base t1.size hacc2)
  obtain ⟨A2, c2, rfl, _, _⟩ := Rep.acc_form hacc2
  clear hb2 hacc2 hr
  refine hK _ _ ⟨t2, ?_⟩
  clear hK K
  refine wpAnyH_all (rs := [13]) (by kernel_rfl) (by simp) ?_
  intro i2 hi2
  obtain rfl : i2 = 13 := by simpa using hi2
  clear hi2
  refine wpOp_step rfl (fun K hK => ?_)
  refine step_spread_leaf (e := 3) (base := W.heap.size) (Q := fun _ => False) (Rep.leaf_int .i64) rfl _ _ 35 rfl (.int .i64 0) 1 8 Tryz.underlying35 infoI3 rfl (by decide) rfl _ r (by exact rfl) HA2.out _ x.other (by exact rfl) (HV.out _ t2).other.val (by have := HRL.out; have := HOL.out; unfold maxLen; omega) (by have := HRL.out; have := HOL.out; omega) t2.size ?_
  intro s3 w3 hacc3 hgr3 hat3
  have t3 : Below W.heap.size W w3 := Rep.acc_below HA2.out t2 hgr3 t2.size
  have HA3 := Lib.hid hacc3
  obtain ⟨A3, c3, rfl, _, _⟩ := Rep.acc_form hacc3
  clear hgr3 hat3 hacc3
  refine hK _ _ ⟨t3, ?_⟩
  clear hK K
  have hql : (r ++ x.other).length ≤ 1000000000000 := by rw [List.length_append]; have := HRL.out; have := HOL.out; omega
  obtain ⟨q, hq⟩ : ∃ q, r ++ x.other = q := ⟨_, rfl⟩
  rw [hq] at HA3 hql ⊢
  have HE := Lib.hid (show heldOf x = Lib.compact (q.mergeSort fun a b => decide (a ≤ b)) by unfold heldOf; rw [HR.out, hq])
  have HQL := Lib.hid hql
  clear hq hql
  go_simp
  refine tkHV (i := 14) (v := .slice A3 q.length c3) rfl t3 ?_
  go_simp
  refine wpAnyH_done (by kernel_rfl) ?_ _
  go_wp2_with fail
  refine (sortInts_calls HA3.out HQL.out).mono ?_
  rintro e w4 ⟨rfl, hacc4, hgr4⟩
  have t4 : Below W.heap.size W w4 := Rep.acc_below HA3.out t3 hgr4 t3.size
  have hml : (q.mergeSort fun a b => decide (a ≤ b)).length = q.length := List.length_mergeSort _
  obtain ⟨z, hz⟩ : ∃ z, (q.mergeSort fun a b => decide (a ≤ b)) = z := ⟨_, rfl⟩
  rw [hz] at hacc4 hml HE
  have HA4 := Lib.hid hacc4
  have HML := Lib.hid (show z.length ≤ 1000000000000 by rw [hml]; exact HQL.out)
  clear hacc4 hgr4 hz hml t3
  go_wp2_with fail
  refine (compactAcc_calls HA4.out HML.out).mono ?_
  rintro e w5 ⟨v5, rfl, hacc5, hb5⟩
  have t5 : Below W.heap.size W w5 := t4.trans hb5
  rw [← HE.out] at hacc5
  obtain ⟨A5, c5, rfl, _, _⟩ := Rep.acc_form hacc5
  have HA5 := Lib.hid hacc5
  obtain ⟨m, hm⟩ : ∃ m, (heldOf x).length = m := ⟨_, rfl⟩
  rw [hm] at HA5 ⊢
  clear hacc5 hb5 t4 hm
  go_wp2_with fail
  go_ret
  exact ⟨_, rfl, HA5.out, t5⟩

set_option maxRecDepth 100000 in
set_option maxHeartbeats 1000000 in
/-- store.Free -/
theorem sfree_calls {Q : Nat → Prop} {W : World} {S A : Nat} {d : Value} {x : StSt} {Ad : Option Addr} {cd : Nat} {Af : Option Addr} {cf : Nat} {Ao : Option Addr} {co : Nat} (hS : StoreRow W S d x A Ad cd Af cf Ao co) (hv : StoreVals Q W x Ad cd Af cf Ao co) (hok : StoreOk x) (hp : 0 ≤ x.pages ∧ x.pages ≤ 100000) :
    Calls Tryz.prog 19 #[.pointer (some ⟨S, 0, none⟩)] W fun e W' => e = .returned (.int .i64 (x.pages - (heldOf x).length)) ∧ Below W.heap.size W W' := by
  have HS := Lib.hid (show ∀ V, Below W.heap.size W V → StoreRow V S d x A Ad cd Af cf Ao co from fun V hb => row_call hb hS)
  have HC := Lib.hid (show ∀ V, Below W.heap.size W V → Calls Tryz.prog 18 #[.pointer (some ⟨S, 0, none⟩)] V (ResA (Rep.int .i64) 3 V (heldOf x)) from fun V hb => sheld_calls (Q := Q) (row_call hb hS) (hv.keep fun b hq hl => ⟨hq, hb.block b hl.lt⟩) hok)
  have hhl : (heldOf x).length ≤ 17000000 := by
    unfold heldOf
    refine Nat.le_trans (compact_le _) ?_
    rw [List.length_mergeSort]
    unfold reachOf
    rw [List.length_append, List.length_append]
    have h1 := pagesOf_len (l := x.flows) (fun f hf => Nat.le_trans (hok.flows.2 f hf).1 (by decide))
    have h2 := hok.flows.1
    have h3 := hok.dir
    have h4 := hok.other
    omega
  obtain ⟨m, hm⟩ : ∃ m, (heldOf x).length = m := ⟨_, rfl⟩
  rw [hm] at hhl ⊢
  have HM := Lib.hid hm
  obtain ⟨pg, hpg⟩ : ∃ pg, x.pages = pg := ⟨_, rfl⟩
  rw [hpg] at hp ⊢
  have HPG := Lib.hid hpg
  have iw : IntKind.i64.wrap (pg - (m : Int)) = pg - (m : Int) := IntWalk.i64_in _ ⟨by omega, by omega⟩
  have HIW := Lib.hid iw
  clear hS hv hok hhl hp hm hpg iw
  go_enter Tryz.func19, Tryz.ntmps19
  go_wp2_with fail
  refine wp_region_held_drew (S := fun V => Below W.heap.size W V) (by kernel_rfl) ((Below.refl _ _).drew) (fun s0 => ?_)
  obtain ⟨v1, hv1⟩ : ∃ V, V = W.drew := ⟨_, rfl⟩
  rw [← hv1] at s0 ⊢
  have t1 : Below W.heap.size W v1 := s0
  clear hv1 s0
  refine tkHV (i := 0) (v := .pointer (some ⟨S, 0, none⟩)) rfl t1 ?_
  go_simp
  refine tkHV (i := 1) (v := .pointer (some ⟨S, 0, none⟩)) rfl t1 ?_
  go_simp
  refine tkHV (i := 2) (v := .pointer (some ⟨S, 1, none⟩)) rfl t1 ?_
  go_simp
  refine tkHV (i := 3) (v := .pointer (some ⟨S, 2, none⟩)) rfl t1 ?_
  go_simp
  refine tkH (i := 4) (v := .int .i64 pg) rfl (Or.inl ⟨by rfl, fun w' h => by have e := HS.out w' h; unfold StoreRow at e; have e2 := cell_row e 2; rw [HPG.out] at e2; go_simp⟩) t1 ?_
  go_simp
  refine tkHV (i := 5) (v := .pointer (some ⟨S, 0, none⟩)) rfl t1 ?_
  go_simp
  refine wpAnyH_all (rs := [6]) (by kernel_rfl) (by simp) ?_
  intro i2 hi2
  obtain rfl : i2 = 6 := by simpa using hi2
  clear hi2
  refine wpOp_step rfl (fun K hK => ?_)
  go_simp
  refine (HC.out _ t1).mono ?_
  rintro e v2 ⟨u2, rfl, hacc2, hb2⟩
  have t2 : Below W.heap.size W v2 := t1.trans (hb2.mono t1.size)
  obtain ⟨A2, c2, rfl, _, _⟩ := Rep.acc_form hacc2
  rw [HM.out]
  clear hb2 hacc2
  refine hK _ _ ⟨t2, ?_⟩
  clear hK K
  have iw := HIW.out
  refine tkHV (i := 7) (v := .int .i64 m) rfl t2 ?_
  go_simp
  refine tkHV (i := 8) (v := .int .i64 (pg - (m : Int))) rfl t2 ?_
  go_simp
  refine tkHV (i := 9) (v := .int .i64 (pg - (m : Int))) rfl t2 ?_
  go_simp
  refine wpAnyH_done (by kernel_rfl) ?_ _
  go_wp2_with fail
  go_ret
  exact ⟨rfl, t2⟩
end Go.Proofs.YtghbfbohnoebiaaGreat
namespace Go.Proofs.YtghbfbohnoebiaaGreat
open Go.RowKit Go.Shelf
attribute [local go_sem] Oper.semAt_some

theorem slot_nil {W : World} : Calls Tryz.prog 21 #[.pointer none] W fun e W' => e = .returned (.int .i64 0) ∧ W' = W := by
  go_enter Tryz.func21, Tryz.ntmps21
  go_wp2_with fail
  go_ret
  exact ⟨rfl, rfl⟩
theorem epoch_nil {W : World} : Calls Tryz.prog 22 #[.pointer none] W fun e W' => e = .returned (.int .i64 0) ∧ W' = W := by
  go_enter Tryz.func22, Tryz.ntmps22
  go_wp2_with fail
  go_ret
  exact ⟨rfl, rfl⟩
theorem need_nil {W : World} {v : Value} : Calls Tryz.prog 20 #[.pointer none, v] W fun e W' => e = .returned (.int .i64 0) ∧ W' = W := by
  go_enter Tryz.func20, Tryz.ntmps20
  go_wp2_with fail
  go_ret
  exact ⟨rfl, rfl⟩
theorem held_nil {W : World} : Calls Tryz.prog 18 #[.pointer none] W fun e W' => e = .returned (.slice none 0 0) ∧ W' = W := by
  go_enter Tryz.func18, Tryz.ntmps18
  go_wp2_with fail
  go_ret
  exact ⟨rfl, rfl⟩
theorem free_nil {W : World} : Calls Tryz.prog 19 #[.pointer none] W fun e W' => e = .returned (.int .i64 0) ∧ W' = W := by
  go_enter Tryz.func19, Tryz.ntmps19
  go_wp2_with fail
  go_ret
  exact ⟨rfl, rfl⟩
theorem super_nil {W : World} : Calls Tryz.prog 24 #[.pointer none] W fun e W' => e = .returned (.agg #[.int .i64 0, .int .i64 0, .int .i64 0, .int .i64 0, .int .i64 0, .int .i64 0, .int .i64 0, .slice none 0 0]) ∧ Below W.heap.size W W' := by
  go_enter Tryz.func24, Tryz.ntmps24
  go_wp2_with fail
  (try simp only [Exit.inBlock, Exit.then])
  refine bodyPost_ret (results_cell_row (p := 2) rfl _ _ W.heap.size 37 _ (0, 0) _ rfl (heap_alloc_new _ _) Tryz.underlying37 rfl (by kernel_rfl)) rfl ?_
  exact ⟨rfl, (Below.refl _ _).alloc (Nat.le_refl _) _⟩
theorem load_nil {W : World} : Calls Tryz.prog 15 #[.pointer none] W fun e W' => e = .returned (.tuple #[.pointer none, .slice none 0 0, .int .i64 4]) ∧ W' = W := by
  go_enter Tryz.func15, Tryz.ntmps15
  go_wp2_with fail
  go_ret3
  exact ⟨rfl, rfl⟩
theorem format_nil {W : World} {v : Value} : Calls Tryz.prog 12 #[.pointer none, .int .i64 4, .int .i64 4, v] W fun e W' => e = .returned (.tuple #[.pointer none, .int .i64 4]) ∧ Below W.heap.size W W' := by
  go_enter Tryz.func12, Tryz.ntmps12
  go_wp2_with fail
  refine (layout_calls _ _ _).mono ?_
  rintro e w1 ⟨rfl, hb⟩
  have HB := Lib.hid hb
  clear hb
  go_wp2_with fail
  go_ret2
  exact ⟨rfl, HB.out.alloc HB.out.size _⟩
end Go.Proofs.YtghbfbohnoebiaaGreat
