/- Texts on which the proofs stand: RAddNil, WatchEv. No condition is laid on any input. -/
import Derived.Test.YtfpmkenobphfnaaWeNames
import Derived.Test.YtfpmkenobphfnaaWePartsSame
import Derived.Test.YtfpmkenobphfnaaWeRAdd
import Derived.Test.YtfpmkenobphfnaaWeWatchSeek
/- Walk of ref37.add, at no name; both. Printed by gen_raddnil.py. -/
namespace Go.Proofs.Ytfpmkenobphfnaa
open Go.RowKit

set_option maxRecDepth 100000 in
set_option maxHeartbeats 2000000 in
/-- ref37.add, at no name -/
theorem radd_nil {Q : Nat → Prop} {w : World} {id : DID} (hwf : IDwf id) :
    Calls Try.prog 142 #[.slice none 0 0, .agg #[.int .i64 id.index, .int .i64 id.gen]] w (AddPost Q w [] id) := by
  have HWF := Lib.hid hwf
  obtain ⟨W1, hW1⟩ : ∃ W1, w.alloc (.cells #[.int .i64 id.index, .int .i64 id.gen] 175) = W1 := ⟨_, rfl⟩
  have hb1 : Below w.heap.size w W1 := by rw [← hW1]; exact (Below.refl _ _).alloc (Nat.le_refl _) _
  have hz1 : W1.heap.size = w.heap.size + 1 := by rw [← hW1]; simp
  have hr0 : W1.heap[w.heap.size]? = some (.cells #[.int .i64 id.index, .int .i64 id.gen] 175 (0, 0)) := by rw [← hW1]; exact heap_alloc_new _ _
  have KI := Lib.hid (show ∀ W, Below W1.heap.size W1 W → W.cell? ⟨w.heap.size, 0, none⟩ = some (.int .i64 id.index) ∧ W.cell? ⟨w.heap.size, 1, none⟩ = some (.int .i64 id.gen) from fun W h => by
    have e := (h.block _ (by omega)).trans hr0
    exact ⟨cell_row e 0, cell_row e 1⟩)
  have FIN := Lib.hid (show ∀ W, Below W1.heap.size W1 W → Below w.heap.size w W from fun W h => hb1.trans (h.mono hb1.size))
  have HZ := Lib.hid hz1
  clear hwf hb1 hz1 hr0
  go_enter Try.func142, Try.ntmps142
  go_wp2_with fail
  try rw [hW1]
  clear hW1
  try go_wp2_with fail
  go_loopw [5] (fun i wr => i = .int .i64 0 ∧ wr = W1) (fun i _ => (intOf i).toNat)
  case atStart => exact ⟨rfl, rfl⟩
  case round =>
    obtain ⟨rfl, rfl⟩ := hrel
    go_wp2_with fail
    refine wp_region_held_drew (S := fun W => W = wr.drew) (by kernel_rfl) rfl (fun s0 => ?_)
    refine wpAnyH_take (i := 0) (v := .int .i64 0) rfl (by kernel_rfl) (by kernel_rfl) (by kernel_rfl) (fun _ _ _ h => h) (Or.inl ⟨by rfl, fun w' _ => by go_simp <;> omega⟩) s0 ?_
    go_simp
    refine wpAnyH_take (i := 1) (v := .bool false) rfl (by kernel_rfl) (by kernel_rfl) (by kernel_rfl) (fun _ _ _ h => h) (Or.inl ⟨by rfl, fun w' _ => by go_simp <;> omega⟩) s0 ?_
    go_simp
    refine wpAnyH_take (i := 2) (v := .bool false) rfl (by kernel_rfl) (by kernel_rfl) (by kernel_rfl) (fun _ _ _ h => h) (Or.inl ⟨by rfl, fun w' _ => by go_simp <;> omega⟩) s0 ?_
    go_simp
    refine wpAnyH_take (i := 3) (v := undef) rfl (by kernel_rfl) (by kernel_rfl) (by kernel_rfl) (fun _ _ _ h => h) (Or.inr ⟨by rfl, rfl⟩) s0 ?_
    go_simp
    refine wpAnyH_take (i := 4) (v := undef) rfl (by kernel_rfl) (by kernel_rfl) (by kernel_rfl) (fun _ _ _ h => h) (Or.inr ⟨by rfl, rfl⟩) s0 ?_
    go_simp
    refine wpAnyH_take (i := 5) (v := undef) rfl (by kernel_rfl) (by kernel_rfl) (by kernel_rfl) (fun _ _ _ h => h) (Or.inr ⟨by rfl, rfl⟩) s0 ?_
    go_simp
    refine wpAnyH_take (i := 6) (v := undef) rfl (by kernel_rfl) (by kernel_rfl) (by kernel_rfl) (fun _ _ _ h => h) (Or.inr ⟨by rfl, rfl⟩) s0 ?_
    go_simp
    refine wpAnyH_take (i := 7) (v := undef) rfl (by kernel_rfl) (by kernel_rfl) (by kernel_rfl) (fun _ _ _ h => h) (Or.inr ⟨by rfl, rfl⟩) s0 ?_
    go_simp
    refine wpAnyH_take (i := 8) (v := undef) rfl (by kernel_rfl) (by kernel_rfl) (by kernel_rfl) (fun _ _ _ h => h) (Or.inr ⟨by rfl, rfl⟩) s0 ?_
    go_simp
    refine wpAnyH_take (i := 9) (v := undef) rfl (by kernel_rfl) (by kernel_rfl) (by kernel_rfl) (fun _ _ _ h => h) (Or.inr ⟨by rfl, rfl⟩) s0 ?_
    go_simp
    refine wpAnyH_take (i := 10) (v := undef) rfl (by kernel_rfl) (by kernel_rfl) (by kernel_rfl) (fun _ _ _ h => h) (Or.inr ⟨by rfl, rfl⟩) s0 ?_
    go_simp
    refine wpAnyH_take (i := 11) (v := .bool false) rfl (by kernel_rfl) (by kernel_rfl) (by kernel_rfl) (fun _ _ _ h => h) (Or.inl ⟨by rfl, fun w' _ => by go_simp <;> omega⟩) s0 ?_
    go_simp
    refine wpAnyH_done (by kernel_rfl) ?_ _
    have HBX := Lib.hid (Below.refl wr.heap.size wr).drew
    clear s0
    obtain ⟨WX, hWX⟩ : ∃ WX, wr.drew = WX := ⟨_, rfl⟩
    rw [hWX] at HBX ⊢
    clear hWX
    obtain ⟨W5, hW5⟩ : ∃ W5, WX.alloc (.cells #[] 175) = W5 := ⟨_, rfl⟩
    have HA5 := Lib.hid (show rID.acc 175 wr.heap.size (fun _ => False) W5 (.slice (some ⟨WX.heap.size, 0, none⟩) 0 0) [] by rw [← hW5]; exact Rep.acc_made WX #[] 0 HBX.out.size (by simp [maxLen]) (by simp))
    have HB5 := Lib.hid (show Below wr.heap.size wr W5 by rw [← hW5]; exact HBX.out.alloc HBX.out.size _)
    have KN := Lib.hid (show ∀ W : World, rID.list.val (fun _ => False) W (.slice none 0 0) [] from fun W => Rep.val_nil (by simp [maxLen]))
    have L1 := Lib.hid (show ([] : List DID).length + ([] : List DID).length ≤ maxLen ∧ (([] : List DID).length + ([] : List DID).length) * 16 ≤ 140737488355328 by simp [maxLen])
    have L2 := Lib.hid (show ([] : List DID).length + 1 ≤ maxLen ∧ (([] : List DID).length + 1) * 16 ≤ 140737488355328 by simp [maxLen])
    have L3 := Lib.hid (show [id].length + ([] : List DID).length ≤ maxLen ∧ ([id].length + ([] : List DID).length) * 16 ≤ 140737488355328 by simp [maxLen])
    go_wp2_with (first
      | (refine wpList_spread_leaf (e := 175) (base := wr.heap.size) (Q := fun _ => False) rID_leaf rfl _ _ 206 rfl (.agg #[.int .i64 0, .int .i64 0]) 2 16 Try.underlying206 infoID rfl (by decide) rfl _ [] (by exact rfl) HA5.out _ ([] : List DID) (by exact rfl) (KN.out W5) L1.out.1 L1.out.2 HB5.out.size ?_; intro v6 w6 hacc6 hgr6 hat6; rw [List.nil_append] at hacc6; have HA6 := Lib.hid hacc6; have HB6 := Lib.hid (Rep.acc_below HA5.out HB5.out hgr6 HB5.out.size); clear hacc6 hgr6 hat6; obtain ⟨z0, z1⟩ := KI.out w6 HB6.out)
      | (refine wpList_snoc (e := 175) (base := wr.heap.size) (Q := fun _ => False) (r := rID) rfl rfl _ _ 206 _ rfl rfl rfl (.agg #[.int .i64 0, .int .i64 0]) 2 16 Try.underlying206 infoID rfl (by decide) rfl _ [] HA6.out id _ (by exact rfl) (rID_agg HWF.out.1 HWF.out.2) (by exact rfl) (by exact rfl) L2.out.1 L2.out.2 HB6.out.size ?_; intro v7 w8 hacc7 hgr7 hat7; rw [List.nil_append] at hacc7; have HA7 := Lib.hid hacc7; have HB7 := Lib.hid (Rep.acc_below HA6.out HB6.out hgr7 HB6.out.size); clear hacc7 hgr7 hat7)
      | (refine wpList_spread_leaf (e := 175) (base := wr.heap.size) (Q := fun _ => False) rID_leaf rfl _ _ 206 rfl (.agg #[.int .i64 0, .int .i64 0]) 2 16 Try.underlying206 infoID rfl (by decide) rfl _ [id] (by exact rfl) HA7.out _ ([] : List DID) (by exact rfl) (KN.out w8) L3.out.1 L3.out.2 HB7.out.size ?_; intro v9 w9 hacc9 hgr9 hat9; have HA9 := Lib.hid hacc9; have HB9 := Lib.hid (Rep.acc_below HA7.out HB7.out hgr9 HB7.out.size); clear hacc9 hgr9 hat9))
    go_ret
    exact ⟨_, [id], rfl, Rep.val_mono (fun b hb _ => .inr (Nat.le_trans (by have := HZ.out; omega) hb)) (Rep.acc_fresh HA9.out), by simp, List.pairwise_singleton _ _, fun x => by simp, by simp, FIN.out _ HB9.out⟩

/-- ref37.add -/
theorem radd_calls {Q : Nat → Prop} {w : World} {v : Value} {l : List DID} {id : DID} (hx : rID.list.val Q w v l) (hnil : l = [] → v = .slice none 0 0) (hs : l.Pairwise idLt) (hwf : IDwf id) (hl : l.length ≤ 1000000000) :
    Calls Try.prog 142 #[v, .agg #[.int .i64 id.index, .int .i64 id.gen]] w (AddPost Q w l id) := by
  cases l with
  | nil => rw [hnil rfl]; exact radd_nil hwf
  | cons x l =>
    obtain ⟨A, c, rfl, h1, h2, hat⟩ := Rep.val_list hx
    obtain ⟨b, off, rfl⟩ : ∃ b off, A = some ⟨b, off, none⟩ := by
      obtain ⟨es, _, h⟩ := hat
      obtain ⟨b, off, h, _⟩ := h (by simp)
      exact ⟨b, off, h⟩
    exact radd_some hat h1 h2 hs hwf hl
end Go.Proofs.Ytfpmkenobphfnaa
/- Walk of watch.Events. -/
namespace Go.Proofs.Ytfpmkenobphfnaa
open Go.RowKit

/-- What happened to an entity between two states. -/
def evOf (s t : DState) (yes no : Nat) (f : Int) (id : DID) : List DEvent :=
  if (findSt t id yes no).2 && !(findSt s id yes no).2 then [⟨0, id, f⟩]
  else if (findSt s id yes no).2 && !(findSt t id yes no).2 then [⟨1, id, f⟩]
  else if (findSt s id yes no).2 && (findSt t id yes no).2 && !decide ((findSt s id yes no).1 = (findSt t id yes no).1) then [⟨2, id, f⟩] else []
def eventsOf (s t : DState) (yes no : Nat) (f : Int) (ns : List DID) : List DEvent := ns.flatMap (evOf s t yes no f)
theorem evOf_len (s t : DState) (yes no : Nat) (f : Int) (id : DID) : (evOf s t yes no f id).length ≤ 1 := by
  unfold evOf
  split
  · simp
  · split
    · simp
    · split <;> simp
theorem eventsOf_len (s t : DState) (yes no : Nat) (f : Int) : ∀ (ns : List DID), (eventsOf s t yes no f ns).length ≤ ns.length
  | [] => Nat.le_refl _
  | x :: l => by
    have h1 := eventsOf_len s t yes no f l
    have h2 := evOf_len s t yes no f x
    unfold eventsOf at *
    rw [List.flatMap_cons, List.length_append, List.length_cons]
    omega
theorem eventsOf_succ {s t : DState} {yes no : Nat} {f : Int} {ns : List DID} {k : Nat} {x : DID} (h : ns[k]? = some x) : eventsOf s t yes no f (ns.take (k + 1)) = eventsOf s t yes no f (ns.take k) ++ evOf s t yes no f x := by
  obtain ⟨hk, he⟩ := List.getElem?_eq_some_iff.1 h
  unfold eventsOf
  rw [List.take_succ_eq_append_getElem hk, List.flatMap_append, he]; simp
def EventsPost (w : World) (a b : DState) (yes no : Nat) (f : Int) (e : Ending) (w' : World) : Prop :=
  ∃ u ns, e = .returned u ∧ ns.Pairwise idLt ∧ (∀ x, x ∈ ns ↔ x ∈ (a.ents ++ b.ents).map (·.id)) ∧ rEvent.list.val (fun b => w.heap.size ≤ b) w' u (eventsOf a b yes no f ns) ∧ Below w.heap.size w w'
theorem infoEvent : (Try.prog.info? 205).map (fun i => (i.zero, i.size, i.bytes)) = some (some (.agg #[.int .i64 0, .int .i64 0, .int .i64 0, .int .i64 0]), 4, 32) := by kernel_rfl

set_option maxRecDepth 100000 in
set_option maxHeartbeats 2000000 in
/-- watch.Events -/
theorem wevents_calls {Q : Nat → Prop} {w : World} {va vb : Value} {a b : DState} {yes no : Nat} {f : Int} (hva : rState.val Q w va a) (hvb : rState.val Q w vb b) (hy : yes < 18446744073709551616) (hn : no < 18446744073709551616) (hf : (Lit.int .i64 f).wf = true) (hl : (a.ents ++ b.ents).length ≤ 1000000000) :
    Calls Try.prog 80 #[va, vb, .int .u64 (yes : Int), .int .u64 (no : Int), .int .i64 f] w (EventsPost w a b yes no f) := by
  have HVA := Lib.hid (Rep.val_any hva)
  have HVB := Lib.hid (Rep.val_any hvb)
  have HYN := Lib.hid (show yes < 18446744073709551616 ∧ no < 18446744073709551616 from ⟨hy, hn⟩)
  have HF := Lib.hid hf
  have HL := Lib.hid hl
  have HK := Lib.hid (show (Lit.int .i64 0).wf = true ∧ (Lit.int .i64 1).wf = true ∧ (Lit.int .i64 2).wf = true by decide)
  obtain ⟨A1, c1, A2, c2, A3, c3, rfl, _, _, _⟩ := rState_val hva
  obtain ⟨B1, d1, B2, d2, B3, d3, rfl, _, _, _⟩ := rState_val hvb
  obtain ⟨W1, hW1⟩ : ∃ W1, (w.alloc (.cells #[.slice A1 a.gens.length c1, .slice A2 a.free.length c2, .slice A3 a.ents.length c3] 109)).alloc (.cells #[.slice B1 b.gens.length d1, .slice B2 b.free.length d2, .slice B3 b.ents.length d3] 109) = W1 := ⟨_, rfl⟩
  have hz : (w.alloc (.cells #[.slice A1 a.gens.length c1, .slice A2 a.free.length c2, .slice A3 a.ents.length c3] 109)).heap.size = w.heap.size + 1 := by simp
  have hb1 : Below w.heap.size w W1 := by rw [← hW1]; exact ((Below.refl _ _).alloc (Nat.le_refl _) _).alloc (by rw [hz]; omega) _
  have hz1 : W1.heap.size = w.heap.size + 2 := by rw [← hW1]; simp
  have hr0 : W1.heap[w.heap.size]? = some (.cells #[.slice A1 a.gens.length c1, .slice A2 a.free.length c2, .slice A3 a.ents.length c3] 109 (0, 0)) := by rw [← hW1]; exact (heap_alloc_old _ _ (by rw [hz]; omega)).trans (heap_alloc_new w _)
  have hr1 : W1.heap[w.heap.size + 1]? = some (.cells #[.slice B1 b.gens.length d1, .slice B2 b.free.length d2, .slice B3 b.ents.length d3] 109 (0, 0)) := by rw [← hW1, ← hz]; exact heap_alloc_new _ _
  have KS := Lib.hid (show ∀ W, Below W1.heap.size W1 W → (W.cell? ⟨w.heap.size, 0, none⟩ = some (.slice A1 a.gens.length c1) ∧ W.cell? ⟨w.heap.size, 1, none⟩ = some (.slice A2 a.free.length c2) ∧ W.cell? ⟨w.heap.size, 2, none⟩ = some (.slice A3 a.ents.length c3)) ∧ W.cell? ⟨w.heap.size + 1, 0, none⟩ = some (.slice B1 b.gens.length d1) ∧ W.cell? ⟨w.heap.size + 1, 1, none⟩ = some (.slice B2 b.free.length d2) ∧ W.cell? ⟨w.heap.size + 1, 2, none⟩ = some (.slice B3 b.ents.length d3) from fun W h => by
    have e := (h.block _ (by omega)).trans hr0
    have f := (h.block _ (by omega)).trans hr1
    exact ⟨⟨cell_row e 0, cell_row e 1, cell_row e 2⟩, cell_row f 0, cell_row f 1, cell_row f 2⟩)
  have FIN := Lib.hid (show ∀ W, Below W1.heap.size W1 W → Below w.heap.size w W from fun W h => hb1.trans (h.mono hb1.size))
  have KA := Lib.hid (show ∀ W, Below W1.heap.size W1 W → rState.val (fun b => b < w.heap.size) W (.agg #[.slice A1 a.gens.length c1, .slice A2 a.free.length c2, .slice A3 a.ents.length c3]) a from fun W h => Rep.val_below HVA.out (FIN.out W h) (fun _ hb _ => hb))
  have KB := Lib.hid (show ∀ W, Below W1.heap.size W1 W → rState.val (fun b => b < w.heap.size) W (.agg #[.slice B1 b.gens.length d1, .slice B2 b.free.length d2, .slice B3 b.ents.length d3]) b from fun W h => Rep.val_below HVB.out (FIN.out W h) (fun _ hb _ => hb))
  have HZ := Lib.hid hz1
  obtain ⟨⟨q0, q1, q2⟩, q3, q4, q5⟩ := KS.out W1 (Below.refl _ _)
  clear hva hvb hy hn hf hl hz hb1 hz1 hr0 hr1
  go_enter Try.func80, Try.ntmps80
  go_wp2_with fail
  try rw [hW1]
  clear hW1
  try go_wp2_with fail
  refine (names_calls (KA.out W1 (Below.refl _ _)) (KB.out W1 (Below.refl _ _)) HL.out).mono ?_
  rintro e w2 ⟨u2, ns, rfl, hu2, hpw, hmem, hln, hb2⟩
  obtain ⟨A5, c5, rfl, h51, h52, hat⟩ := Rep.val_list hu2
  have HB2 := Lib.hid hb2
  have HPW := Lib.hid hpw
  have HMEM := Lib.hid hmem
  have HNL := Lib.hid (show ns.length ≤ 1000000000 by rw [List.length_map] at hln; exact Nat.le_trans hln HL.out)
  have KN := Lib.hid (show ∀ W', Below w2.heap.size w2 W' → rID.At (fun b => b < w2.heap.size) W' A5 ns from fun W' hb => Rep.At.keep (w := w2) (fun b _ hl => ⟨hl.lt, hb.block b hl.lt⟩) hat)
  have HSZ := Lib.hid (show w.heap.size ≤ w2.heap.size by have := HB2.out.size; have := HZ.out; omega)
  unfold maxLen at h52
  clear hu2 hpw hmem hln hb2 hat q0 q1 q2 q3 q4 q5
  go_wp2_with fail
  go_loopw [11, 22] (fun v i wr => ∃ k : Nat, i = .int .i64 k ∧ k ≤ ns.length ∧ rEvent.acc 205 w2.heap.size (fun _ => False) wr v (eventsOf a b yes no f (ns.take k)) ∧ Below w2.heap.size w2 wr) (fun _ i _ => ns.length - (intOf i).toNat)
  case atStart => exact ⟨0, rfl, Nat.zero_le _, by rw [List.take_zero]; exact Rep.acc_nil, Below.refl _ _⟩
  case round =>
    obtain ⟨k, rfl, hk, hv, hbel⟩ := hrel
    have HBW := Lib.hid hbel
    by_cases hlt : (k : Int) < ns.length
    · obtain ⟨x, hx⟩ : ∃ x, ns[k]? = some x := ⟨_, List.getElem?_eq_getElem (by omega)⟩
      obtain ⟨bb, off, hA5, _, e0, e1, f0, f1⟩ := rID_at (KN.out _ hbel) hx
      subst hA5
      have HT := Lib.hid (eventsOf_succ (s := a) (t := b) (yes := yes) (no := no) (f := f) hx)
      have hql : (eventsOf a b yes no f (ns.take k)).length ≤ k := Nat.le_trans (eventsOf_len ..) (by simp; omega)
      obtain ⟨q, hq⟩ : ∃ q, eventsOf a b yes no f (ns.take k) = q := ⟨_, rfl⟩
      rw [hq] at hv HT hql
      obtain ⟨A6, c6, rfl, _, _⟩ := Rep.acc_form hv
      have L := Lib.hid (show q.length + 1 ≤ maxLen ∧ (q.length + 1) * 32 ≤ 140737488355328 by unfold maxLen; have := HNL.out; omega)
      obtain ⟨W4, hW4⟩ : ∃ W4, wr.alloc (.cells #[.int .i64 x.index, .int .i64 x.gen] 175) = W4 := ⟨_, rfl⟩
      have hb4 : Below wr.heap.size wr W4 := by rw [← hW4]; exact (Below.refl _ _).alloc (Nat.le_refl _) _
      have hn4 : W4.heap[wr.heap.size]? = some (.cells #[.int .i64 x.index, .int .i64 x.gen] 175 (0, 0)) := by rw [← hW4]; exact heap_alloc_new _ _
      have hz4 : W4.heap.size = wr.heap.size + 1 := by rw [← hW4]; simp
      have KC := Lib.hid (show ∀ W, Below W4.heap.size W4 W → W.cell? ⟨wr.heap.size, 0, none⟩ = some (.int .i64 x.index) ∧ W.cell? ⟨wr.heap.size, 1, none⟩ = some (.int .i64 x.gen) from fun W h => by
        have e := (h.block _ (by omega)).trans hn4
        exact ⟨cell_row e 0, cell_row e 1⟩)
      have HV4 := Lib.hid (Rep.acc_later hv hb4)
      have HB4 := Lib.hid (hbel.trans (hb4.mono hbel.size))
      have FI4 := Lib.hid (show ∀ W, Below W4.heap.size W4 W → Below w2.heap.size w2 W from fun W h => HB4.out.trans (h.mono HB4.out.size))
      have FI1 := Lib.hid (show ∀ W, Below W4.heap.size W4 W → Below W1.heap.size W1 W from fun W h => HB2.out.trans ((FI4.out W h).mono HB2.out.size))
      have HG := Lib.hid (And.intro f0 f1)
      obtain ⟨⟨p1, p2⟩, hp⟩ : ∃ pr, findSt a x yes no = pr := ⟨_, rfl⟩
      obtain ⟨⟨r1, r2⟩, hr⟩ : ∃ pr, findSt b x yes no = pr := ⟨_, rfl⟩
      have HPF := Lib.hid hp
      have HRF := Lib.hid hr
      obtain ⟨⟨q0, q1, q2⟩, _, _, _⟩ := KS.out W4 (FI1.out _ (Below.refl _ _))
      obtain ⟨y0, y1⟩ := KC.out W4 (Below.refl _ _)
      clear hv hbel hx hql hq hb4 hn4 hz4 f0 f1 hp hr
      go_wp2_with fail
      try rw [hW4]
      clear hW4 e0 e1
      try go_wp2_with fail
      refine (wfind_calls (KA.out W4 (FI1.out _ (Below.refl _ _))) HYN.out.1 HYN.out.2).mono ?_
      rintro e w5 ⟨u5, rfl, hu5, hb5⟩
      rw [HPF.out] at hu5 ⊢
      have HU5 := Lib.hid hu5
      have HB5 := Lib.hid hb5
      clear hu5 hb5 q0 q1 q2 y0 y1
      obtain ⟨_, q3, q4, q5⟩ := KS.out w5 (FI1.out _ HB5.out)
      obtain ⟨y0, y1⟩ := KC.out w5 HB5.out
      go_wp2_with fail
      refine (wfind_calls (KB.out w5 (FI1.out _ HB5.out)) HYN.out.1 HYN.out.2).mono ?_
      rintro e w6 ⟨u6, rfl, hu6, hb6⟩
      rw [HRF.out] at hu6 ⊢
      have HU6 := Lib.hid hu6
      have HB6 := Lib.hid hb6
      have H46 := Lib.hid (show Below W4.heap.size W4 w6 from HB5.out.trans (hb6.mono HB5.out.size))
      have HV6 := Lib.hid (Rep.acc_later HV4.out H46.out)
      have HB26 := Lib.hid (FI4.out _ H46.out)
      clear hu6 hb6 q3 q4 q5 y0 y1
      obtain ⟨y0, y1⟩ := KC.out w6 H46.out
      cases p2 with
      | false =>
        cases r2 with
        | true =>
          have HEV := Lib.hid (show evOf a b yes no f x = [⟨0, x, f⟩] by unfold evOf; rw [HPF.out, HRF.out]; simp)
          go_wp2_with (refine wpList_snoc (e := 205) (base := w2.heap.size) (Q := fun _ => False) (r := rEvent) rfl rfl _ _ 123 _ rfl rfl rfl (.agg #[.int .i64 0, .int .i64 0, .int .i64 0, .int .i64 0]) 4 32 Try.underlying123 infoEvent rfl (by decide) rfl _ q HV6.out ⟨0, x, f⟩ _ (by exact rfl) (rEvent_agg HK.out.1 HG.out.1 HG.out.2 HF.out) (by exact rfl) (by exact rfl) L.out.1 L.out.2 HB26.out.size ?_; intro s8 w8 hacc8 hgr8 hat8)
          exact ⟨⟨k + 1, by go_num, by omega, by rw [HT.out, HEV.out]; exact hacc8, Rep.acc_below HV6.out HB26.out hgr8 HB26.out.size⟩, by simp [intOf]; omega⟩
        | false =>
          have HEV := Lib.hid (show evOf a b yes no f x = [] by unfold evOf; rw [HPF.out, HRF.out]; simp)
          go_wp2_with fail
          exact ⟨⟨k + 1, by go_num, by omega, by rw [HT.out, HEV.out, List.append_nil]; exact HV6.out, HB26.out⟩, by simp [intOf]; omega⟩
      | true =>
        cases r2 with
        | false =>
          have HEV := Lib.hid (show evOf a b yes no f x = [⟨1, x, f⟩] by unfold evOf; rw [HPF.out, HRF.out]; simp)
          go_wp2_with (refine wpList_snoc (e := 205) (base := w2.heap.size) (Q := fun _ => False) (r := rEvent) rfl rfl _ _ 123 _ rfl rfl rfl (.agg #[.int .i64 0, .int .i64 0, .int .i64 0, .int .i64 0]) 4 32 Try.underlying123 infoEvent rfl (by decide) rfl _ q HV6.out ⟨1, x, f⟩ _ (by exact rfl) (rEvent_agg HK.out.2.1 HG.out.1 HG.out.2 HF.out) (by exact rfl) (by exact rfl) L.out.1 L.out.2 HB26.out.size ?_; intro s8 w8 hacc8 hgr8 hat8)
          exact ⟨⟨k + 1, by go_num, by omega, by rw [HT.out, HEV.out]; exact hacc8, Rep.acc_below HV6.out HB26.out hgr8 HB26.out.size⟩, by simp [intOf]; omega⟩
        | true =>
          go_wp2_with fail
          refine (eqParts_calls (Rep.val_below HU5.out (HB6.out) (fun b _ hl => hl.lt)) HU6.out).mono ?_
          rintro e w7 ⟨rfl, hb7⟩
          have HV7 := Lib.hid (Rep.acc_later HV6.out hb7)
          have HB27 := Lib.hid (HB26.out.trans (hb7.mono HB26.out.size))
          have H47 := Lib.hid (H46.out.trans (hb7.mono H46.out.size))
          clear hb7 y0 y1
          obtain ⟨y0, y1⟩ := KC.out w7 H47.out
          by_cases hpr : p1 = r1
          · have HEV := Lib.hid (show evOf a b yes no f x = [] by unfold evOf; rw [HPF.out, HRF.out]; simp [hpr])
            have hdp : decide (p1 = r1) = true := decide_eq_true hpr
            rw [hdp]
            clear hpr hdp
            go_wp2_with fail
            exact ⟨⟨k + 1, by go_num, by omega, by rw [HT.out, HEV.out, List.append_nil]; exact HV7.out, HB27.out⟩, by simp [intOf]; omega⟩
          · have HEV := Lib.hid (show evOf a b yes no f x = [⟨2, x, f⟩] by unfold evOf; rw [HPF.out, HRF.out]; simp [hpr])
            have hdp : decide (p1 = r1) = false := decide_eq_false hpr
            rw [hdp]
            clear hpr hdp
            go_wp2_with (refine wpList_snoc (e := 205) (base := w2.heap.size) (Q := fun _ => False) (r := rEvent) rfl rfl _ _ 123 _ rfl rfl rfl (.agg #[.int .i64 0, .int .i64 0, .int .i64 0, .int .i64 0]) 4 32 Try.underlying123 infoEvent rfl (by decide) rfl _ q HV7.out ⟨2, x, f⟩ _ (by exact rfl) (rEvent_agg HK.out.2.2 HG.out.1 HG.out.2 HF.out) (by exact rfl) (by exact rfl) L.out.1 L.out.2 HB27.out.size ?_; intro s8 w8 hacc8 hgr8 hat8)
            exact ⟨⟨k + 1, by go_num, by omega, by rw [HT.out, HEV.out]; exact hacc8, Rep.acc_below HV7.out HB27.out hgr8 HB27.out.size⟩, by simp [intOf]; omega⟩
    · obtain rfl : k = ns.length := by omega
      rw [List.take_length] at hv
      have HVE := Lib.hid hv
      clear hv hbel
      go_wp2_with fail
      go_ret
      exact ⟨_, ns, rfl, HPW.out, HMEM.out, Rep.val_mono (fun b hb _ => Nat.le_trans HSZ.out hb) (Rep.acc_fresh HVE.out), FIN.out _ (HB2.out.trans (HBW.out.mono HB2.out.size))⟩
end Go.Proofs.Ytfpmkenobphfnaa
