/- Texts on which the proofs stand: CPart, CCmdWords. No condition is laid on any input. -/
import Derived.Test.YtejibngkeaamkaaGreatDoorCoG2
namespace Go.Proofs.YtejibngkeaamkaaGreatDoor
open Go.RowKit

theorem find_self {l : List DComp} {k : Nat} {x : DComp} (hx : l[k]? = some x) : ∃ j, findC l x.name = some j ∧ j ≤ k := by
  obtain ⟨hk, rfl⟩ := List.getElem?_eq_some_iff.1 hx
  cases h : findC l l[k].name with
  | none =>
    unfold findC at h
    have := List.findIdx?_eq_none_iff.1 h l[k] (List.getElem_mem hk)
    simp at this
  | some j =>
    refine ⟨j, rfl, ?_⟩
    unfold findC at h
    obtain ⟨h1, h2, h3⟩ := List.findIdx?_eq_some_iff_getElem.1 h
    rcases Nat.lt_or_ge k j with hl | hg
    · have := h3 k hl; simp at this
    · exact hg

set_option maxRecDepth 100000 in
set_option maxHeartbeats 2000000 in
/-- console.part -/
theorem cwpart_calls {Q : Nat → Prop} {w : World} {v : Value} {c : DConf} {k : Int} (hx : rConf.val Q w v c) (hk : In64 k) (ht : Tabs w) :
    Calls Tryz.prog 71 #[v, .int .i64 k] w fun e w' => e = .returned (.string ⟨(partS c.comps k).toArray⟩) ∧ Below w.heap.size w w' := by
  have HT := Lib.hid ht
  have HK := Lib.hid hk
  obtain ⟨A, cap, rfl, _, _, _, _, hA⟩ := rConf_val hx
  have HX := Lib.hid hx
  have hlen := hA.2.1
  have hle := hA.1
  unfold maxLen at hlen
  have hl1 : ((Lib.itoa k).length : Int) ≤ 20 := by have := (itoa_len HK.out).1; omega
  clear ht hk
  by_cases h0 : 0 ≤ k
  · by_cases h1 : k < (c.comps.length : Int)
    · obtain ⟨j, rfl⟩ : ∃ j : Nat, k = (j : Int) := ⟨k.toNat, by omega⟩
      obtain ⟨x, hxx⟩ : ∃ x, c.comps[j]? = some x := ⟨_, List.getElem?_eq_getElem (by omega)⟩
      obtain ⟨i, hi, hij⟩ := find_self hxx
      have HFD := Lib.hid hi
      by_cases hq : i = j
      · subst hq
        have hqq : ((i : Int) == (i : Int)) = true := by simp
        obtain ⟨b, off, rfl⟩ := Rep.At.addr hA.2.2 (by omega)
        obtain ⟨W0, hW0⟩ : ∃ W, (w.alloc (.cells #[.int .i64 c.log, .int .i64 c.pages, .int .i64 c.entities, .int .i64 c.gens, .slice (some ⟨b, off, none⟩) c.comps.length cap] 24)) = W := ⟨_, rfl⟩
        have hz0 : W0.heap.size = w.heap.size + 1 := by rw [← hW0]; simp
        have hb0 : Below w.heap.size w W0 := by rw [← hW0]; exact (Below.refl _ _).alloc (Nat.le_refl _) _
        have HZ := Lib.hid hz0
        have HB0 := Lib.hid hb0
        have R0_0 := Lib.hid (show W0.heap[w.heap.size]? = some (.cells #[.int .i64 c.log, .int .i64 c.pages, .int .i64 c.entities, .int .i64 c.gens, .slice (some ⟨b, off, none⟩) c.comps.length cap] 24 (0, 0)) by rw [← hW0]; exact alloc_at rfl)
        have O0 := Lib.hid (Only.refl (Box w 1) W0)
        have Vc_0 := Lib.hid (show rConf.val (In Q w 1) W0 (.agg #[.int .i64 c.log, .int .i64 c.pages, .int .i64 c.entities, .int .i64 c.gens, .slice (some ⟨b, off, none⟩) c.comps.length cap]) c from val_in HX.out hb0)
        have hAt := Rep.At.keep (Q' := fun _ => True) (w' := W0) (fun b _ hl => ⟨trivial, hb0.block b hl.lt⟩) hA.2.2
        obtain ⟨b2, off2, he2, _, e0, e1, _⟩ := rComp_at hAt hxx
        obtain ⟨rfl, rfl⟩ : b = b2 ∧ off = off2 := by simpa using he2
        have HF := Lib.hid (show partS c.comps (i : Int) = x.name by unfold partS; rw [Int.toNat_natCast, hxx]; simp [hi])
        clear hxx hAt hi
        clear hz0 hb0 hx hA
        have q0_0 := rw5 R0_0.out
        go_enter Tryz.func71, Tryz.ntmps71
        go_wp2_with fail
        try rw [hW0]
        clear hW0
        try go_wp2_with fail
        clear e0 e1
        clear q0_0
        refine (cfind_calls (s := x.name) Vc_0.out).mono ?_
        rintro e w1 ⟨rfl, hb⟩
        have S1 := Lib.hid (show Only (Box w 1) W0 w1 from Only.of_below hb)
        have O1 := Lib.hid (O0.out.trans S1.out)
        have R0_1 := Lib.hid (row_call hb R0_0.out)
        have Vc_1 := Lib.hid (val_only Vc_0.out S1.out)
        clear hb
        rw [HFD.out]
        go_wp2_with fail
        go_ret
        exact ⟨by rw [HF.out]; rfl, Only.fin HB0.out O1.out⟩
      · have hqq : ((i : Int) == (j : Int)) = false := by rw [beq_eq_false_iff_ne]; omega
        obtain ⟨b, off, rfl⟩ := Rep.At.addr hA.2.2 (by omega)
        obtain ⟨W0, hW0⟩ : ∃ W, (w.alloc (.cells #[.int .i64 c.log, .int .i64 c.pages, .int .i64 c.entities, .int .i64 c.gens, .slice (some ⟨b, off, none⟩) c.comps.length cap] 24)) = W := ⟨_, rfl⟩
        have hz0 : W0.heap.size = w.heap.size + 1 := by rw [← hW0]; simp
        have hb0 : Below w.heap.size w W0 := by rw [← hW0]; exact (Below.refl _ _).alloc (Nat.le_refl _) _
        have HZ := Lib.hid hz0
        have HB0 := Lib.hid hb0
        have R0_0 := Lib.hid (show W0.heap[w.heap.size]? = some (.cells #[.int .i64 c.log, .int .i64 c.pages, .int .i64 c.entities, .int .i64 c.gens, .slice (some ⟨b, off, none⟩) c.comps.length cap] 24 (0, 0)) by rw [← hW0]; exact alloc_at rfl)
        have O0 := Lib.hid (Only.refl (Box w 1) W0)
        have Vc_0 := Lib.hid (show rConf.val (In Q w 1) W0 (.agg #[.int .i64 c.log, .int .i64 c.pages, .int .i64 c.entities, .int .i64 c.gens, .slice (some ⟨b, off, none⟩) c.comps.length cap]) c from val_in HX.out hb0)
        have hAt := Rep.At.keep (Q' := fun _ => True) (w' := W0) (fun b _ hl => ⟨trivial, hb0.block b hl.lt⟩) hA.2.2
        obtain ⟨b2, off2, he2, _, e0, e1, _⟩ := rComp_at hAt hxx
        obtain ⟨rfl, rfl⟩ : b = b2 ∧ off = off2 := by simpa using he2
        have HF := Lib.hid (show partS c.comps (j : Int) = 35 :: Lib.itoa j by unfold partS; rw [Int.toNat_natCast, hxx]; simp [hi, hq])
        clear hxx hAt hi hq
        clear hz0 hb0 hx hA
        have q0_0 := rw5 R0_0.out
        go_enter Tryz.func71, Tryz.ntmps71
        go_wp2_with fail
        try rw [hW0]
        clear hW0
        try go_wp2_with fail
        clear e0 e1
        clear q0_0
        refine (cfind_calls (s := x.name) Vc_0.out).mono ?_
        rintro e w1 ⟨rfl, hb⟩
        have S1 := Lib.hid (show Only (Box w 1) W0 w1 from Only.of_below hb)
        have O1 := Lib.hid (O0.out.trans S1.out)
        have R0_1 := Lib.hid (row_call hb R0_0.out)
        have Vc_1 := Lib.hid (val_only Vc_0.out S1.out)
        clear hb
        rw [HFD.out]
        go_wp2_with fail
        try go_wp2_with fail
        refine (itoa_calls HK.out (HT.out.call (Only.fin HB0.out O1.out))).mono ?_
        rintro e w9 ⟨rfl, hb⟩
        have S2 := Lib.hid (show Only (Box w 1) w1 w9 from Only.of_below hb)
        have O2 := Lib.hid (O1.out.trans S2.out)
        have R0_2 := Lib.hid (row_call hb R0_1.out)
        have Vc_2 := Lib.hid (val_only Vc_1.out S2.out)
        clear hb
        go_wp2_with fail
        go_ret
        exact ⟨congrArg _ (bytes_eq (by rw [HF.out]; simp [ByteArray.data_append])), Only.fin HB0.out O2.out⟩
    · have HF := Lib.hid (show partS c.comps k = 35 :: Lib.itoa k by unfold partS; rw [List.getElem?_eq_none (by omega)])
      obtain ⟨W0, hW0⟩ : ∃ W, (w.alloc (.cells #[.int .i64 c.log, .int .i64 c.pages, .int .i64 c.entities, .int .i64 c.gens, .slice A c.comps.length cap] 24)) = W := ⟨_, rfl⟩
      have hz0 : W0.heap.size = w.heap.size + 1 := by rw [← hW0]; simp
      have hb0 : Below w.heap.size w W0 := by rw [← hW0]; exact (Below.refl _ _).alloc (Nat.le_refl _) _
      have HZ := Lib.hid hz0
      have HB0 := Lib.hid hb0
      have R0_0 := Lib.hid (show W0.heap[w.heap.size]? = some (.cells #[.int .i64 c.log, .int .i64 c.pages, .int .i64 c.entities, .int .i64 c.gens, .slice A c.comps.length cap] 24 (0, 0)) by rw [← hW0]; exact alloc_at rfl)
      have O0 := Lib.hid (Only.refl (Box w 1) W0)
      have Vc_0 := Lib.hid (show rConf.val (In Q w 1) W0 (.agg #[.int .i64 c.log, .int .i64 c.pages, .int .i64 c.entities, .int .i64 c.gens, .slice A c.comps.length cap]) c from val_in HX.out hb0)
      skip
      clear hz0 hb0 hx hA
      have q0_0 := rw5 R0_0.out
      go_enter Tryz.func71, Tryz.ntmps71
      go_wp2_with fail
      try rw [hW0]
      clear hW0
      try go_wp2_with fail
      clear q0_0
      refine (itoa_calls HK.out (HT.out.call (Only.fin HB0.out O0.out))).mono ?_
      rintro e w9 ⟨rfl, hb⟩
      have S1 := Lib.hid (show Only (Box w 1) W0 w9 from Only.of_below hb)
      have O1 := Lib.hid (O0.out.trans S1.out)
      have R0_1 := Lib.hid (row_call hb R0_0.out)
      have Vc_1 := Lib.hid (val_only Vc_0.out S1.out)
      clear hb
      go_wp2_with fail
      go_ret
      exact ⟨congrArg _ (bytes_eq (by rw [HF.out]; simp [ByteArray.data_append])), Only.fin HB0.out O1.out⟩
  · have HF := Lib.hid (show partS c.comps k = 35 :: Lib.itoa k by unfold partS; split <;> simp [h0])
    obtain ⟨W0, hW0⟩ : ∃ W, (w.alloc (.cells #[.int .i64 c.log, .int .i64 c.pages, .int .i64 c.entities, .int .i64 c.gens, .slice A c.comps.length cap] 24)) = W := ⟨_, rfl⟩
    have hz0 : W0.heap.size = w.heap.size + 1 := by rw [← hW0]; simp
    have hb0 : Below w.heap.size w W0 := by rw [← hW0]; exact (Below.refl _ _).alloc (Nat.le_refl _) _
    have HZ := Lib.hid hz0
    have HB0 := Lib.hid hb0
    have R0_0 := Lib.hid (show W0.heap[w.heap.size]? = some (.cells #[.int .i64 c.log, .int .i64 c.pages, .int .i64 c.entities, .int .i64 c.gens, .slice A c.comps.length cap] 24 (0, 0)) by rw [← hW0]; exact alloc_at rfl)
    have O0 := Lib.hid (Only.refl (Box w 1) W0)
    have Vc_0 := Lib.hid (show rConf.val (In Q w 1) W0 (.agg #[.int .i64 c.log, .int .i64 c.pages, .int .i64 c.entities, .int .i64 c.gens, .slice A c.comps.length cap]) c from val_in HX.out hb0)
    skip
    clear hz0 hb0 hx hA
    have q0_0 := rw5 R0_0.out
    go_enter Tryz.func71, Tryz.ntmps71
    go_wp2_with fail
    try rw [hW0]
    clear hW0
    try go_wp2_with fail
    clear q0_0
    refine (itoa_calls HK.out (HT.out.call (Only.fin HB0.out O0.out))).mono ?_
    rintro e w9 ⟨rfl, hb⟩
    have S1 := Lib.hid (show Only (Box w 1) W0 w9 from Only.of_below hb)
    have O1 := Lib.hid (O0.out.trans S1.out)
    have R0_1 := Lib.hid (row_call hb R0_0.out)
    have Vc_1 := Lib.hid (val_only Vc_0.out S1.out)
    clear hb
    go_wp2_with fail
    go_ret
    exact ⟨congrArg _ (bytes_eq (by rw [HF.out]; simp [ByteArray.data_append])), Only.fin HB0.out O1.out⟩
end Go.Proofs.YtejibngkeaamkaaGreatDoor
namespace Go.Proofs.YtejibngkeaamkaaGreatDoor
open Go.RowKit

theorem text_row {Q : Nat → Prop} {w : World} : ∀ (l : List (List UInt8)), (∀ x ∈ l, x.length ≤ maxLen) → Rep.text.row Q w (l.map fun x => Value.string ⟨x.toArray⟩) l
  | [], _ => rfl
  | x :: l, h => ⟨[.string ⟨x.toArray⟩], l.map fun x => Value.string ⟨x.toArray⟩, rfl, ⟨rfl, h x (by simp)⟩, text_row l fun y hy => h y (by simp [hy])⟩
theorem texts_val {Q : Nat → Prop} {W : World} {B e : Nat} {f : Nat × Nat} (l : List (List UInt8)) (h : W.heap[B]? = some (.cells (l.map fun x => Value.string ⟨x.toArray⟩).toArray e f)) (hl : ∀ x ∈ l, x.length ≤ maxLen) (hn : l.length ≤ maxLen) (hB : Q B) :
    Rep.text.list.val Q W (.slice (some ⟨B, 0, none⟩) l.length l.length) l := by
  refine Rep.list_val rfl (Nat.le_refl _) hn ⟨_, text_row l hl, fun _ => ⟨B, 0, rfl, hB, ⟨_, _, _, h⟩, fun j u hj => ?_⟩⟩
  rw [cell_row h, Nat.zero_add, ← hj]
  simp
theorem whom_len {x : DCmd} (h : In64 x.id.index ∧ In64 x.id.gen) : (whomS x).length ≤ 50 := by
  have h1 := (itoa_len h.1).1
  have h2 := (itoa_len h.2).1
  unfold whomS
  split <;> simp <;> omega
theorem cpart_len {l : List DComp} {k : Int} (hk : In64 k) {m : Nat} (h : ∀ x ∈ l, x.name.length ≤ m) (hm : 50 ≤ m) : (partS l k).length ≤ m := by
  rcases part_cases l k with ⟨x, hx, _, _, e⟩ | e
  · rw [e]; exact h x (List.mem_of_getElem? hx)
  · rw [e]; have := (itoa_len hk).1; simp; omega
theorem hex_len (b : List UInt8) : (hexS b).length ≤ 2 * b.length + 1 := by
  unfold hexS
  split
  · simp
  · rw [hexOf_len]; omega
/-- What a list of words answers. -/
def WordsAns (w : World) (l : List Word) (e : Ending) (W : World) : Prop := ∃ v, e = .returned v ∧ Rep.text.list.val (fun b => w.heap.size ≤ b) W v l ∧ Below w.heap.size w W

set_option maxRecDepth 100000 in
set_option maxHeartbeats 4000000 in
/-- console.command -/
theorem cwords_calls {Q Q' : Nat → Prop} {w : World} {u v : Value} {c : DConf} {x : DCmd} (hu : rConf.val Q w u c) (hx : rCmd.val Q' w v x) (ht : Tabs w) (hd : x.data.length ≤ 1000000) (hm : ∀ y ∈ c.comps, y.name.length ≤ 1000000) :
    Calls Tryz.prog 48 #[u, v] w (WordsAns w (commandS c.comps x)) := by
  have HT := Lib.hid ht
  have HM := Lib.hid hm
  have HD := Lib.hid hd
  obtain ⟨A, cap, rfl, _, _, _, _, _, _, _⟩ := rConf_val hu
  obtain ⟨Ad, cd, rfl, f0, f1, f2, f3, hs⟩ := rCmd_val hx
  have HU := Lib.hid hu
  have HX := Lib.hid hx
  have HSL := Lib.hid hs.val
  have HF := Lib.hid (And.intro (in_wf f1) (in_wf f2))
  have HK := Lib.hid (in_wf f3)
  clear hx hs f0 f1 f2 f3 ht hu hm hd
  by_cases n0 : x.kind = 1
  · have bk : (x.kind == 1) = true := by simp [n0]
    have HW := Lib.hid (show commandS c.comps x = [wDespawn, whomS x] by unfold commandS;  rw [if_pos n0])
    have HL := Lib.hid (show ∀ y ∈ [wDespawn, whomS x], y.length ≤ maxLen by intro y hy; have h1 := whom_len HF.out; have h2 := cpart_len HK.out HM.out (by omega); have h3 := hex_len x.data; have h4 := HD.out; unfold maxLen; simp only [List.mem_cons, List.not_mem_nil, or_false] at hy; rcases hy with rfl | rfl <;> (first | (simp [wDespawn]; done) | omega))
    clear n0
    obtain ⟨W0, hW0⟩ : ∃ W, ((w.alloc (.cells #[.int .i64 c.log, .int .i64 c.pages, .int .i64 c.entities, .int .i64 c.gens, .slice A c.comps.length cap] 24)).alloc (.cells #[.int .i64 x.kind, .bool x.loc, .int .i64 x.id.index, .int .i64 x.id.gen, .int .i64 x.comp, .slice Ad x.data.length cd] 29)) = W := ⟨_, rfl⟩
    have hz0 : W0.heap.size = w.heap.size + 2 := by rw [← hW0]; simp
    have hb0 : Below w.heap.size w W0 := by rw [← hW0]; exact ((Below.refl _ _).alloc (Nat.le_refl _) _).alloc (by first | (simp; done) | (simp; omega)) _
    have HZ := Lib.hid hz0
    have HB0 := Lib.hid hb0
    have R0_0 := Lib.hid (show W0.heap[w.heap.size]? = some (.cells #[.int .i64 c.log, .int .i64 c.pages, .int .i64 c.entities, .int .i64 c.gens, .slice A c.comps.length cap] 24 (0, 0)) by rw [← hW0]; exact alloc_old (alloc_at rfl))
    have R1_0 := Lib.hid (show W0.heap[w.heap.size + 1]? = some (.cells #[.int .i64 x.kind, .bool x.loc, .int .i64 x.id.index, .int .i64 x.id.gen, .int .i64 x.comp, .slice Ad x.data.length cd] 29 (0, 0)) by rw [← hW0]; exact alloc_at (by simp))
    have O0 := Lib.hid (Only.refl (Box w 2) W0)
    have Vc_0 := Lib.hid (show rConf.val (In Q w 2) W0 (.agg #[.int .i64 c.log, .int .i64 c.pages, .int .i64 c.entities, .int .i64 c.gens, .slice A c.comps.length cap]) c from val_in HU.out hb0)
    have Vx_0 := Lib.hid (show rCmd.val (In Q' w 2) W0 (.agg #[.int .i64 x.kind, .bool x.loc, .int .i64 x.id.index, .int .i64 x.id.gen, .int .i64 x.comp, .slice Ad x.data.length cd]) x from val_in HX.out hb0)
    have Vd_0 := Lib.hid (show Rep.byte.list.val (In Q' w 2) W0 (.slice Ad x.data.length cd) x.data from val_in HSL.out hb0)
    clear hz0 hb0
    have q0_0 := rw5 R0_0.out
    have q1_0 := rw6 R1_0.out
    go_enter Tryz.func48, Tryz.ntmps48
    go_wp2_with fail
    try rw [hW0]
    clear hW0
    try go_wp2_with fail
    clear q0_0 q1_0
    refine (cwhom_calls Vx_0.out (HT.out.call (Only.fin HB0.out O0.out))).mono ?_
    rintro e w1 ⟨rfl, hb⟩
    have S1 := Lib.hid (show Only (Box w 2) W0 w1 from Only.of_below hb)
    have O1 := Lib.hid (O0.out.trans S1.out)
    have R0_1 := Lib.hid (row_call hb R0_0.out)
    have R1_1 := Lib.hid (row_call hb R1_0.out)
    have Vc_1 := Lib.hid (val_only Vc_0.out S1.out)
    have Vx_1 := Lib.hid (val_only Vx_0.out S1.out)
    have Vd_1 := Lib.hid (val_only Vd_0.out S1.out)
    clear hb
    go_wp2_with fail
    refine nm_post (fun W9 hnm => ?_)
    have RN := Lib.hid (show W9.heap[w1.heap.size]? = some (.cells #[.string ⟨(wDespawn).toArray⟩, .string ⟨(whomS x).toArray⟩] 9 (0, 0)) by rw [hnm]; exact alloc_at rfl)
    have B9 := Lib.hid (show Below w.heap.size w W9 by rw [hnm]; exact Below.alloc (Only.fin HB0.out O1.out) (Below.size (Only.fin HB0.out O1.out)) _)
    have HZN := Lib.hid (Below.size (Only.fin HB0.out O1.out))
    clear hnm
    go_ret
    exact ⟨_, rfl, by rw [HW.out]; exact texts_val [wDespawn, whomS x] RN.out HL.out (by simp [maxLen]) HZN.out, B9.out⟩
  · skip
    by_cases n1 : x.kind = 2
    · have bk : (x.kind == 2) = true := by simp [n1]
      have c0 : (x.kind == 1) = false := by simpa using n0
      have HW := Lib.hid (show commandS c.comps x = [wSet, whomS x, partS c.comps x.comp, hexS x.data] by unfold commandS; rw [if_neg n0]; rw [if_pos n1])
      have HL := Lib.hid (show ∀ y ∈ [wSet, whomS x, partS c.comps x.comp, hexS x.data], y.length ≤ maxLen by intro y hy; have h1 := whom_len HF.out; have h2 := cpart_len HK.out HM.out (by omega); have h3 := hex_len x.data; have h4 := HD.out; unfold maxLen; simp only [List.mem_cons, List.not_mem_nil, or_false] at hy; rcases hy with rfl | rfl | rfl | rfl <;> (first | (simp [wSet]; done) | omega))
      clear n0
      clear n1
      obtain ⟨W0, hW0⟩ : ∃ W, ((w.alloc (.cells #[.int .i64 c.log, .int .i64 c.pages, .int .i64 c.entities, .int .i64 c.gens, .slice A c.comps.length cap] 24)).alloc (.cells #[.int .i64 x.kind, .bool x.loc, .int .i64 x.id.index, .int .i64 x.id.gen, .int .i64 x.comp, .slice Ad x.data.length cd] 29)) = W := ⟨_, rfl⟩
      have hz0 : W0.heap.size = w.heap.size + 2 := by rw [← hW0]; simp
      have hb0 : Below w.heap.size w W0 := by rw [← hW0]; exact ((Below.refl _ _).alloc (Nat.le_refl _) _).alloc (by first | (simp; done) | (simp; omega)) _
      have HZ := Lib.hid hz0
      have HB0 := Lib.hid hb0
      have R0_0 := Lib.hid (show W0.heap[w.heap.size]? = some (.cells #[.int .i64 c.log, .int .i64 c.pages, .int .i64 c.entities, .int .i64 c.gens, .slice A c.comps.length cap] 24 (0, 0)) by rw [← hW0]; exact alloc_old (alloc_at rfl))
      have R1_0 := Lib.hid (show W0.heap[w.heap.size + 1]? = some (.cells #[.int .i64 x.kind, .bool x.loc, .int .i64 x.id.index, .int .i64 x.id.gen, .int .i64 x.comp, .slice Ad x.data.length cd] 29 (0, 0)) by rw [← hW0]; exact alloc_at (by simp))
      have O0 := Lib.hid (Only.refl (Box w 2) W0)
      have Vc_0 := Lib.hid (show rConf.val (In Q w 2) W0 (.agg #[.int .i64 c.log, .int .i64 c.pages, .int .i64 c.entities, .int .i64 c.gens, .slice A c.comps.length cap]) c from val_in HU.out hb0)
      have Vx_0 := Lib.hid (show rCmd.val (In Q' w 2) W0 (.agg #[.int .i64 x.kind, .bool x.loc, .int .i64 x.id.index, .int .i64 x.id.gen, .int .i64 x.comp, .slice Ad x.data.length cd]) x from val_in HX.out hb0)
      have Vd_0 := Lib.hid (show Rep.byte.list.val (In Q' w 2) W0 (.slice Ad x.data.length cd) x.data from val_in HSL.out hb0)
      clear hz0 hb0
      have q0_0 := rw5 R0_0.out
      have q1_0 := rw6 R1_0.out
      go_enter Tryz.func48, Tryz.ntmps48
      go_wp2_with fail
      try rw [hW0]
      clear hW0
      try go_wp2_with fail
      clear q0_0 q1_0
      refine wp_region_held_drew (S := fun W => Below W0.heap.size W0 W) (by kernel_rfl) ((Below.refl _ _).drew) (fun s0 => ?_)
      obtain ⟨v1, hv0⟩ : ∃ V, V = W0.drew := ⟨_, rfl⟩
      rw [← hv0] at s0 ⊢
      have t1 : Below W0.heap.size W0 v1 := s0
      clear hv0 s0
      refine tkH (i := 0) (v := .agg #[.int .i64 x.kind, .bool x.loc, .int .i64 x.id.index, .int .i64 x.id.gen, .int .i64 x.comp, .slice Ad x.data.length cd]) rfl (Or.inl ⟨by rfl, fun w' h => by have e := row_call (h : Below W0.heap.size W0 w') R1_0.out; have e0 := cell_row e 0; have e1 := cell_row e 1; have e2 := cell_row e 2; have e3 := cell_row e 3; have e4 := cell_row e 4; have e5 := cell_row e 5; go_simp⟩) t1 ?_
      go_simp
      refine tkH (i := 2) (v := .agg #[.int .i64 c.log, .int .i64 c.pages, .int .i64 c.entities, .int .i64 c.gens, .slice A c.comps.length cap]) rfl (Or.inl ⟨by rfl, fun w' h => by have e := row_call (h : Below W0.heap.size W0 w') R0_0.out; have e0 := cell_row e 0; have e1 := cell_row e 1; have e2 := cell_row e 2; have e3 := cell_row e 3; have e4 := cell_row e 4; go_simp⟩) t1 ?_
      go_simp
      refine tkHV (i := 3) (v := .pointer (some ⟨w.heap.size + 1, 4, none⟩)) rfl t1 ?_
      go_simp
      refine tkH (i := 4) (v := .int .i64 x.comp) rfl (Or.inl ⟨by rfl, fun w' h => by have e := row_call (h : Below W0.heap.size W0 w') R1_0.out; have e0 := cell_row e 0; have e1 := cell_row e 1; have e2 := cell_row e 2; have e3 := cell_row e 3; have e4 := cell_row e 4; have e5 := cell_row e 5; go_simp⟩) t1 ?_
      go_simp
      refine tkHV (i := 6) (v := .pointer (some ⟨w.heap.size + 1, 5, none⟩)) rfl t1 ?_
      go_simp
      refine tkH (i := 7) (v := .slice Ad x.data.length cd) rfl (Or.inl ⟨by rfl, fun w' h => by have e := row_call (h : Below W0.heap.size W0 w') R1_0.out; have e0 := cell_row e 0; have e1 := cell_row e 1; have e2 := cell_row e 2; have e3 := cell_row e 3; have e4 := cell_row e 4; have e5 := cell_row e 5; go_simp⟩) t1 ?_
      go_simp
      refine wpAnyH_all (rs := [1]) (by kernel_rfl) (by simp) ?_
      intro i hi
      obtain rfl : i = 1 := by simpa using hi
      clear hi
      refine wpOp_step rfl (fun K hK => ?_)
      go_simp
      refine (cwhom_calls (val_only Vx_0.out (Only.of_below t1 : Only (Box w 2) W0 v1)) (HT.out.call ((Only.fin HB0.out O0.out).trans (Below.mono t1 (Only.fin HB0.out O0.out).size)))).mono ?_
      rintro e v2 ⟨rfl, hb⟩
      have t2 : Below W0.heap.size W0 v2 := Below.trans t1 (hb.mono (Below.size t1))
      refine hK _ _ ⟨t2, ?_⟩
      clear hb
      clear hK K
      refine wpAnyH_all (rs := [5]) (by kernel_rfl) (by simp) ?_
      intro i hi
      obtain rfl : i = 5 := by simpa using hi
      clear hi
      refine wpOp_step rfl (fun K hK => ?_)
      go_simp
      refine (cwpart_calls (val_only Vc_0.out (Only.of_below t2 : Only (Box w 2) W0 v2)) HK.out (HT.out.call ((Only.fin HB0.out O0.out).trans (Below.mono t2 (Only.fin HB0.out O0.out).size)))).mono ?_
      rintro e v3 ⟨rfl, hb⟩
      have t3 : Below W0.heap.size W0 v3 := Below.trans t2 (hb.mono (Below.size t2))
      refine hK _ _ ⟨t3, ?_⟩
      clear hb
      clear hK K
      refine wpAnyH_all (rs := [8]) (by kernel_rfl) (by simp) ?_
      intro i hi
      obtain rfl : i = 8 := by simpa using hi
      clear hi
      refine wpOp_step rfl (fun K hK => ?_)
      go_simp
      refine (hex_calls (val_only Vd_0.out (Only.of_below t3 : Only (Box w 2) W0 v3)) HD.out).mono ?_
      rintro e v4 ⟨rfl, hb⟩
      have t4 : Below W0.heap.size W0 v4 := Below.trans t3 (hb.mono (Below.size t3))
      refine hK _ _ ⟨t4, ?_⟩
      clear hb
      clear hK K
      refine wpAnyH_all (rs := [9]) (by kernel_rfl) (by simp) ?_
      intro i hi
      obtain rfl : i = 9 := by simpa using hi
      clear hi
      refine wpOp_step rfl (fun K hK => ?_)
      go_simp
      go_simp
      refine hK _ _ ⟨Below.alloc t4 (Below.size t4) _, ?_⟩
      clear hK K
      refine nm_any (fun v5 hnm => ?_)
      have RN := Lib.hid (show v5.heap[v4.heap.size]? = some (.cells #[.string ⟨(wSet).toArray⟩, .string ⟨(whomS x).toArray⟩, .string ⟨(partS c.comps x.comp).toArray⟩, .string ⟨(hexS x.data).toArray⟩] 9 (0, 0)) by rw [hnm]; exact alloc_at rfl)
      have t5 : Below W0.heap.size W0 v5 := by rw [hnm]; exact Below.alloc t4 (Below.size t4) _
      have HZN := Lib.hid (Below.size t4)
      clear hnm
      refine tkHV (i := 10) (v := .slice (some ⟨v4.heap.size, 0, none⟩) 4 4) rfl t5 ?_
      go_simp
      refine wpAnyH_done (by kernel_rfl) ?_ _
      have S1 := Lib.hid (show Only (Box w 2) W0 v5 from Only.of_below t5)
      have O1 := Lib.hid (O0.out.trans S1.out)
      have R0_1 := Lib.hid (row_call t5 R0_0.out)
      have R1_1 := Lib.hid (row_call t5 R1_0.out)
      have Vc_1 := Lib.hid (val_only Vc_0.out S1.out)
      have Vx_1 := Lib.hid (val_only Vx_0.out S1.out)
      have Vd_1 := Lib.hid (val_only Vd_0.out S1.out)
      go_wp2_with fail
      go_ret
      exact ⟨_, rfl, by rw [HW.out]; exact texts_val [wSet, whomS x, partS c.comps x.comp, hexS x.data] RN.out HL.out (by simp [maxLen]) (by have := HZN.out; have := HZ.out; omega), Only.fin HB0.out O1.out⟩
    · skip
      by_cases n2 : x.kind = 3
      · have bk : (x.kind == 3) = true := by simp [n2]
        have c0 : (x.kind == 1) = false := by simpa using n0
        have c1 : (x.kind == 2) = false := by simpa using n1
        have HW := Lib.hid (show commandS c.comps x = [wRemove, whomS x, partS c.comps x.comp] by unfold commandS; rw [if_neg n0]; rw [if_neg n1]; rw [if_pos n2])
        have HL := Lib.hid (show ∀ y ∈ [wRemove, whomS x, partS c.comps x.comp], y.length ≤ maxLen by intro y hy; have h1 := whom_len HF.out; have h2 := cpart_len HK.out HM.out (by omega); have h3 := hex_len x.data; have h4 := HD.out; unfold maxLen; simp only [List.mem_cons, List.not_mem_nil, or_false] at hy; rcases hy with rfl | rfl | rfl <;> (first | (simp [wRemove]; done) | omega))
        clear n0 n1
        clear n2
        obtain ⟨W0, hW0⟩ : ∃ W, ((w.alloc (.cells #[.int .i64 c.log, .int .i64 c.pages, .int .i64 c.entities, .int .i64 c.gens, .slice A c.comps.length cap] 24)).alloc (.cells #[.int .i64 x.kind, .bool x.loc, .int .i64 x.id.index, .int .i64 x.id.gen, .int .i64 x.comp, .slice Ad x.data.length cd] 29)) = W := ⟨_, rfl⟩
        have hz0 : W0.heap.size = w.heap.size + 2 := by rw [← hW0]; simp
        have hb0 : Below w.heap.size w W0 := by rw [← hW0]; exact ((Below.refl _ _).alloc (Nat.le_refl _) _).alloc (by first | (simp; done) | (simp; omega)) _
        have HZ := Lib.hid hz0
        have HB0 := Lib.hid hb0
        have R0_0 := Lib.hid (show W0.heap[w.heap.size]? = some (.cells #[.int .i64 c.log, .int .i64 c.pages, .int .i64 c.entities, .int .i64 c.gens, .slice A c.comps.length cap] 24 (0, 0)) by rw [← hW0]; exact alloc_old (alloc_at rfl))
        have R1_0 := Lib.hid (show W0.heap[w.heap.size + 1]? = some (.cells #[.int .i64 x.kind, .bool x.loc, .int .i64 x.id.index, .int .i64 x.id.gen, .int .i64 x.comp, .slice Ad x.data.length cd] 29 (0, 0)) by rw [← hW0]; exact alloc_at (by simp))
        have O0 := Lib.hid (Only.refl (Box w 2) W0)
        have Vc_0 := Lib.hid (show rConf.val (In Q w 2) W0 (.agg #[.int .i64 c.log, .int .i64 c.pages, .int .i64 c.entities, .int .i64 c.gens, .slice A c.comps.length cap]) c from val_in HU.out hb0)
        have Vx_0 := Lib.hid (show rCmd.val (In Q' w 2) W0 (.agg #[.int .i64 x.kind, .bool x.loc, .int .i64 x.id.index, .int .i64 x.id.gen, .int .i64 x.comp, .slice Ad x.data.length cd]) x from val_in HX.out hb0)
        have Vd_0 := Lib.hid (show Rep.byte.list.val (In Q' w 2) W0 (.slice Ad x.data.length cd) x.data from val_in HSL.out hb0)
        clear hz0 hb0
        have q0_0 := rw5 R0_0.out
        have q1_0 := rw6 R1_0.out
        go_enter Tryz.func48, Tryz.ntmps48
        go_wp2_with fail
        try rw [hW0]
        clear hW0
        try go_wp2_with fail
        clear q0_0 q1_0
        refine wp_region_held_drew (S := fun W => Below W0.heap.size W0 W) (by kernel_rfl) ((Below.refl _ _).drew) (fun s0 => ?_)
        obtain ⟨v1, hv0⟩ : ∃ V, V = W0.drew := ⟨_, rfl⟩
        rw [← hv0] at s0 ⊢
        have t1 : Below W0.heap.size W0 v1 := s0
        clear hv0 s0
        refine tkH (i := 0) (v := .agg #[.int .i64 x.kind, .bool x.loc, .int .i64 x.id.index, .int .i64 x.id.gen, .int .i64 x.comp, .slice Ad x.data.length cd]) rfl (Or.inl ⟨by rfl, fun w' h => by have e := row_call (h : Below W0.heap.size W0 w') R1_0.out; have e0 := cell_row e 0; have e1 := cell_row e 1; have e2 := cell_row e 2; have e3 := cell_row e 3; have e4 := cell_row e 4; have e5 := cell_row e 5; go_simp⟩) t1 ?_
        go_simp
        refine tkH (i := 2) (v := .agg #[.int .i64 c.log, .int .i64 c.pages, .int .i64 c.entities, .int .i64 c.gens, .slice A c.comps.length cap]) rfl (Or.inl ⟨by rfl, fun w' h => by have e := row_call (h : Below W0.heap.size W0 w') R0_0.out; have e0 := cell_row e 0; have e1 := cell_row e 1; have e2 := cell_row e 2; have e3 := cell_row e 3; have e4 := cell_row e 4; go_simp⟩) t1 ?_
        go_simp
        refine tkHV (i := 3) (v := .pointer (some ⟨w.heap.size + 1, 4, none⟩)) rfl t1 ?_
        go_simp
        refine tkH (i := 4) (v := .int .i64 x.comp) rfl (Or.inl ⟨by rfl, fun w' h => by have e := row_call (h : Below W0.heap.size W0 w') R1_0.out; have e0 := cell_row e 0; have e1 := cell_row e 1; have e2 := cell_row e 2; have e3 := cell_row e 3; have e4 := cell_row e 4; have e5 := cell_row e 5; go_simp⟩) t1 ?_
        go_simp
        refine wpAnyH_all (rs := [1]) (by kernel_rfl) (by simp) ?_
        intro i hi
        obtain rfl : i = 1 := by simpa using hi
        clear hi
        refine wpOp_step rfl (fun K hK => ?_)
        go_simp
        refine (cwhom_calls (val_only Vx_0.out (Only.of_below t1 : Only (Box w 2) W0 v1)) (HT.out.call ((Only.fin HB0.out O0.out).trans (Below.mono t1 (Only.fin HB0.out O0.out).size)))).mono ?_
        rintro e v2 ⟨rfl, hb⟩
        have t2 : Below W0.heap.size W0 v2 := Below.trans t1 (hb.mono (Below.size t1))
        refine hK _ _ ⟨t2, ?_⟩
        clear hb
        clear hK K
        refine wpAnyH_all (rs := [5]) (by kernel_rfl) (by simp) ?_
        intro i hi
        obtain rfl : i = 5 := by simpa using hi
        clear hi
        refine wpOp_step rfl (fun K hK => ?_)
        go_simp
        refine (cwpart_calls (val_only Vc_0.out (Only.of_below t2 : Only (Box w 2) W0 v2)) HK.out (HT.out.call ((Only.fin HB0.out O0.out).trans (Below.mono t2 (Only.fin HB0.out O0.out).size)))).mono ?_
        rintro e v3 ⟨rfl, hb⟩
        have t3 : Below W0.heap.size W0 v3 := Below.trans t2 (hb.mono (Below.size t2))
        refine hK _ _ ⟨t3, ?_⟩
        clear hb
        clear hK K
        refine wpAnyH_all (rs := [6]) (by kernel_rfl) (by simp) ?_
        intro i hi
        obtain rfl : i = 6 := by simpa using hi
        clear hi
        refine wpOp_step rfl (fun K hK => ?_)
        go_simp
        go_simp
        refine hK _ _ ⟨Below.alloc t3 (Below.size t3) _, ?_⟩
        clear hK K
        refine nm_any (fun v4 hnm => ?_)
        have RN := Lib.hid (show v4.heap[v3.heap.size]? = some (.cells #[.string ⟨(wRemove).toArray⟩, .string ⟨(whomS x).toArray⟩, .string ⟨(partS c.comps x.comp).toArray⟩] 9 (0, 0)) by rw [hnm]; exact alloc_at rfl)
        have t4 : Below W0.heap.size W0 v4 := by rw [hnm]; exact Below.alloc t3 (Below.size t3) _
        have HZN := Lib.hid (Below.size t3)
        clear hnm
        refine tkHV (i := 7) (v := .slice (some ⟨v3.heap.size, 0, none⟩) 3 3) rfl t4 ?_
        go_simp
        refine wpAnyH_done (by kernel_rfl) ?_ _
        have S1 := Lib.hid (show Only (Box w 2) W0 v4 from Only.of_below t4)
        have O1 := Lib.hid (O0.out.trans S1.out)
        have R0_1 := Lib.hid (row_call t4 R0_0.out)
        have R1_1 := Lib.hid (row_call t4 R1_0.out)
        have Vc_1 := Lib.hid (val_only Vc_0.out S1.out)
        have Vx_1 := Lib.hid (val_only Vx_0.out S1.out)
        have Vd_1 := Lib.hid (val_only Vd_0.out S1.out)
        go_wp2_with fail
        go_ret
        exact ⟨_, rfl, by rw [HW.out]; exact texts_val [wRemove, whomS x, partS c.comps x.comp] RN.out HL.out (by simp [maxLen]) (by have := HZN.out; have := HZ.out; omega), Only.fin HB0.out O1.out⟩
      · skip
        have c0 : (x.kind == 1) = false := by simpa using n0
        have c1 : (x.kind == 2) = false := by simpa using n1
        have c2 : (x.kind == 3) = false := by simpa using n2
        have HW := Lib.hid (show commandS c.comps x = [wSpawn] by unfold commandS; rw [if_neg n0]; rw [if_neg n1]; rw [if_neg n2])
        have HL := Lib.hid (show ∀ y ∈ [wSpawn], y.length ≤ maxLen by intro y hy; have h1 := whom_len HF.out; have h2 := cpart_len HK.out HM.out (by omega); have h3 := hex_len x.data; have h4 := HD.out; unfold maxLen; simp only [List.mem_cons, List.not_mem_nil, or_false] at hy; subst hy; first | (simp [wSpawn]; done) | omega)
        clear n0 n1 n2
        obtain ⟨W0, hW0⟩ : ∃ W, ((w.alloc (.cells #[.int .i64 c.log, .int .i64 c.pages, .int .i64 c.entities, .int .i64 c.gens, .slice A c.comps.length cap] 24)).alloc (.cells #[.int .i64 x.kind, .bool x.loc, .int .i64 x.id.index, .int .i64 x.id.gen, .int .i64 x.comp, .slice Ad x.data.length cd] 29)) = W := ⟨_, rfl⟩
        have hz0 : W0.heap.size = w.heap.size + 2 := by rw [← hW0]; simp
        have hb0 : Below w.heap.size w W0 := by rw [← hW0]; exact ((Below.refl _ _).alloc (Nat.le_refl _) _).alloc (by first | (simp; done) | (simp; omega)) _
        have HZ := Lib.hid hz0
        have HB0 := Lib.hid hb0
        have R0_0 := Lib.hid (show W0.heap[w.heap.size]? = some (.cells #[.int .i64 c.log, .int .i64 c.pages, .int .i64 c.entities, .int .i64 c.gens, .slice A c.comps.length cap] 24 (0, 0)) by rw [← hW0]; exact alloc_old (alloc_at rfl))
        have R1_0 := Lib.hid (show W0.heap[w.heap.size + 1]? = some (.cells #[.int .i64 x.kind, .bool x.loc, .int .i64 x.id.index, .int .i64 x.id.gen, .int .i64 x.comp, .slice Ad x.data.length cd] 29 (0, 0)) by rw [← hW0]; exact alloc_at (by simp))
        have O0 := Lib.hid (Only.refl (Box w 2) W0)
        have Vc_0 := Lib.hid (show rConf.val (In Q w 2) W0 (.agg #[.int .i64 c.log, .int .i64 c.pages, .int .i64 c.entities, .int .i64 c.gens, .slice A c.comps.length cap]) c from val_in HU.out hb0)
        have Vx_0 := Lib.hid (show rCmd.val (In Q' w 2) W0 (.agg #[.int .i64 x.kind, .bool x.loc, .int .i64 x.id.index, .int .i64 x.id.gen, .int .i64 x.comp, .slice Ad x.data.length cd]) x from val_in HX.out hb0)
        have Vd_0 := Lib.hid (show Rep.byte.list.val (In Q' w 2) W0 (.slice Ad x.data.length cd) x.data from val_in HSL.out hb0)
        clear hz0 hb0
        have q0_0 := rw5 R0_0.out
        have q1_0 := rw6 R1_0.out
        go_enter Tryz.func48, Tryz.ntmps48
        go_wp2_with fail
        try rw [hW0]
        clear hW0
        try go_wp2_with fail
        clear q0_0 q1_0
        refine nm_post (fun W9 hnm => ?_)
        have RN := Lib.hid (show W9.heap[W0.heap.size]? = some (.cells #[.string ⟨(wSpawn).toArray⟩] 9 (0, 0)) by rw [hnm]; exact alloc_at rfl)
        have B9 := Lib.hid (show Below w.heap.size w W9 by rw [hnm]; exact Below.alloc (Only.fin HB0.out O0.out) (Below.size (Only.fin HB0.out O0.out)) _)
        have HZN := Lib.hid (Below.size (Only.fin HB0.out O0.out))
        clear hnm
        go_ret
        exact ⟨_, rfl, by rw [HW.out]; exact texts_val [wSpawn] RN.out HL.out (by simp [maxLen]) HZN.out, B9.out⟩
end Go.Proofs.YtejibngkeaamkaaGreatDoor
