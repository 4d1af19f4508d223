/- Texts on which the proofs stand: Structs, Bytes, Clone. No condition is laid on any input. -/
import Derived.Test.YteljibjbndpncaaWfCore
import Derived.Test.YteljibjbndpncaaWfFrame
import Derived.Test.YteljibjbndpncaaWfTypes
import Derived.Test.YteljibjbndpncaaProg
import Derived.BigQuiet
import Derived.Deep.QuietTactic
/- A struct's reading as0 data is this word's. -/
namespace Go.Proofs.Yteljibjbndpncaa
open Go.ChangeShapes Go.WideShapes Go.ChangeAt Go.RowKit
namespace Rep

/-- Fields, one behind the other, from the offset o on. -/
def Fields {α : Type} (r : Rep α) (P : Program) (fs : List Field) (o : Nat) : Prop :=
  (∀ f ∈ fs, o ≤ f.offset) ∧ ∀ (H : Type) (enc : TypeId × Value → H) (w : World) (n : Nat) (cs : List Value), cs.length = r.size →
    (∀ f ∈ fs, ∃ x, DataW.trod enc P w 0 (fun _ => true) true n f.type ((cs.drop (f.offset - o)).take (P.cellsOf f.type)) = some x) → ∃ y, r.rd (fun _ => True) w cs y

theorem fields_one {α : Type} {r : Rep α} {P : Program} {f : Field} {o : Nat} (ho : f.offset = o) (h : r.Of P f.type) : r.Fields P [f] o :=
  ⟨(fun g hg => by
    have : g = f := by simpa using hg
    rw [this]; omega), fun H enc w n cs hl hf => by
    obtain ⟨x, hx⟩ := hf f (by simp)
    rw [ho, Nat.sub_self, List.drop_zero, h.1, ← hl, List.take_length] at hx
    exact h.2 H enc w n cs x hx⟩
theorem fields_cons {α β : Type} {r : Rep α} {s : Rep β} {P : Program} {f : Field} {fs : List Field} {o : Nat} (ho : f.offset = o) (h : r.Of P f.type) (hs : s.Fields P fs (o + r.size)) : (r.pair s).Fields P (f :: fs) o :=
  ⟨(fun g hg => by
    rcases List.mem_cons.1 hg with rfl | hg
    · omega
    · have := hs.1 g hg; omega), fun H enc w n cs hl hf => by
    have hl' : cs.length = r.size + s.size := hl
    obtain ⟨x, hx⟩ := hf f (by simp)
    rw [ho, Nat.sub_self, List.drop_zero, h.1] at hx
    obtain ⟨y, hy⟩ := h.2 H enc w n _ x hx
    obtain ⟨z, hz⟩ := hs.2 H enc w n (cs.drop r.size) (by rw [List.length_drop]; omega) (fun g hg => by
      obtain ⟨x', hx'⟩ := hf g (by simp [hg])
      refine ⟨x', ?_⟩
      have := hs.1 g hg
      rw [List.drop_drop, show r.size + (g.offset - (o + r.size)) = g.offset - o by omega]
      exact hx')
    exact ⟨(y, z), cs.take r.size, cs.drop r.size, (List.take_append_drop _ _).symm, hy, hz⟩⟩

theorem of_struct {α β : Type} {r : Rep α} {P : Program} {t : TypeId} {fs : Array Field} (f : β → α) (g : α → β) (hfg : ∀ x, f (g x) = x) (ht : P.underlying t = some (.struct fs)) (hc : P.cellsOf t = r.size) (h : r.Fields P fs.toList 0) : (r.iso f).Of P t :=
  ⟨hc, fun H enc w fuel cs x hx => by
    obtain ⟨xs, n, _, rfl, hl, hlen, hf⟩ := DataW.trod_struct ht hx
    obtain ⟨y, hy⟩ := h.2 H enc w n cs (by rw [hl, hc]) (fun fd hfd => by
      obtain ⟨i, hi, rfl⟩ := List.getElem_of_mem hfd
      have hi' : i < fs.size := by simpa using hi
      have := hf i fs[i] (by simp [hi'])
      refine ⟨xs[i]'(by omega), ?_⟩
      simp only [Nat.sub_zero, Array.getElem_toList]
      rw [this]
      simp)
    exact ⟨g y, by show r.rd _ _ _ (f (g y)); rw [hfg]; exact hy⟩⟩
end Rep
theorem of_ID : rID.Of Try.prog 114 :=
  Rep.of_struct _ (fun x => ⟨x.1, x.2⟩) (fun _ => rfl) Try.underlying114 (by kernel_rfl) (Rep.fields_cons rfl (Rep.of_int Try.underlying3 (by kernel_rfl)) (Rep.fields_one rfl (Rep.of_int Try.underlying3 (by kernel_rfl))))
theorem of_Part : rPart.Of Try.prog 135 :=
  Rep.of_struct _ (fun x => ⟨x.1, x.2⟩) (fun _ => rfl) Try.underlying135 (by kernel_rfl) (Rep.fields_cons rfl (Rep.of_int Try.underlying3 (by kernel_rfl)) (Rep.fields_one rfl (Rep.of_list Try.underlying33 (by kernel_rfl) (by decide) (Rep.of_byte Try.underlying5 (by kernel_rfl)))))
theorem of_Ent : rEnt.Of Try.prog 133 :=
  Rep.of_struct _ (fun x => ⟨x.1, x.2⟩) (fun _ => rfl) Try.underlying133 (by kernel_rfl) (Rep.fields_cons rfl of_ID (Rep.fields_one rfl (Rep.of_list Try.underlying131 (by kernel_rfl) (by decide) of_Part)))
theorem of_State : rState.Of Try.prog 75 :=
  Rep.of_struct _ (fun x => ⟨x.1, x.2.1, x.2.2⟩) (fun _ => rfl) Try.underlying75 (by kernel_rfl) (Rep.fields_cons rfl (Rep.of_list Try.underlying27 (by kernel_rfl) (by decide) (Rep.of_int Try.underlying3 (by kernel_rfl))) (Rep.fields_cons rfl (Rep.of_list Try.underlying27 (by kernel_rfl) (by decide) (Rep.of_int Try.underlying3 (by kernel_rfl))) (Rep.fields_one rfl (Rep.of_list Try.underlying73 (by kernel_rfl) (by decide) of_Ent))))
theorem of_Comp : rComp.Of Try.prog 99 :=
  Rep.of_struct _ (fun x => ⟨x.1, x.2⟩) (fun _ => rfl) Try.underlying99 (by kernel_rfl) (Rep.fields_cons rfl (Rep.of_text Try.underlying9 (by kernel_rfl)) (Rep.fields_one rfl (Rep.of_int Try.underlying3 (by kernel_rfl))))
theorem of_Conf : rConf.Of Try.prog 49 :=
  Rep.of_struct _ (fun x => ⟨x.1, x.2.1, x.2.2.1, x.2.2.2.1, x.2.2.2.2⟩) (fun _ => rfl) Try.underlying49 (by kernel_rfl) (Rep.fields_cons rfl (Rep.of_int Try.underlying3 (by kernel_rfl)) (Rep.fields_cons rfl (Rep.of_int Try.underlying3 (by kernel_rfl)) (Rep.fields_cons rfl (Rep.of_int Try.underlying3 (by kernel_rfl)) (Rep.fields_cons rfl (Rep.of_int Try.underlying3 (by kernel_rfl)) (Rep.fields_one rfl (Rep.of_list Try.underlying47 (by kernel_rfl) (by decide) of_Comp))))))
theorem of_Key : rKey.Of Try.prog 32 :=
  Rep.of_struct _ (fun x => ⟨x.1, x.2.1, x.2.2⟩) (fun _ => rfl) Try.underlying32 (by kernel_rfl) (Rep.fields_cons rfl (Rep.of_int Try.underlying3 (by kernel_rfl)) (Rep.fields_cons rfl (Rep.of_int Try.underlying30 (by kernel_rfl)) (Rep.fields_one rfl (Rep.of_int Try.underlying3 (by kernel_rfl)))))
theorem of_Stream : rStream.Of Try.prog 37 :=
  Rep.of_struct _ (fun x => ⟨x.1, x.2⟩) (fun _ => rfl) Try.underlying37 (by kernel_rfl) (Rep.fields_cons rfl of_Key (Rep.fields_one rfl (Rep.of_list Try.underlying33 (by kernel_rfl) (by decide) (Rep.of_byte Try.underlying5 (by kernel_rfl)))))
theorem of_Flow : rFlow.Of Try.prog 35 :=
  Rep.of_struct _ (fun x => ⟨x.1, x.2.1, x.2.2⟩) (fun _ => rfl) Try.underlying35 (by kernel_rfl) (Rep.fields_cons rfl of_Key (Rep.fields_cons rfl (Rep.of_list Try.underlying33 (by kernel_rfl) (by decide) (Rep.of_byte Try.underlying5 (by kernel_rfl))) (Rep.fields_one rfl (Rep.of_list Try.underlying27 (by kernel_rfl) (by decide) (Rep.of_int Try.underlying3 (by kernel_rfl))))))
theorem of_Cmd : rCmd.Of Try.prog 116 :=
  Rep.of_struct _ (fun x => ⟨x.1, x.2.1, x.2.2.1, x.2.2.2.1, x.2.2.2.2⟩) (fun _ => rfl) Try.underlying116 (by kernel_rfl) (Rep.fields_cons rfl (Rep.of_int Try.underlying3 (by kernel_rfl)) (Rep.fields_cons rfl (Rep.of_bool Try.underlying4 (by kernel_rfl)) (Rep.fields_cons rfl of_ID (Rep.fields_cons rfl (Rep.of_int Try.underlying3 (by kernel_rfl)) (Rep.fields_one rfl (Rep.of_list Try.underlying33 (by kernel_rfl) (by decide) (Rep.of_byte Try.underlying5 (by kernel_rfl))))))))
end Go.Proofs.Yteljibjbndpncaa
/- Walks of the references' small functions on bytes and lists. -/
namespace Go.Proofs.Yteljibjbndpncaa
open Go.RowKit

/-- ref01.Same -/
theorem sameBytes {Q Q' : Nat → Prop} {w : World} {v u : Value} {xs ys : List UInt8} (hx : Rep.byte.list.val Q w v xs) (hy : Rep.byte.list.val Q' w u ys) :
    Calls Try.prog 53 #[v, u] w fun e w' => e = .returned (.bool (decide (xs = ys))) ∧ w' = w := by
  obtain ⟨A, c, rfl, hc1, hc2, hA⟩ := Rep.val_list hx
  obtain ⟨B, d, rfl, hd1, hd2, hB⟩ := Rep.val_list hy
  have h1 := hA.toText (P := Try.prog) Try.underlying33 Try.underlying5 Try.underlying9 c
  have h2 := hB.toText (P := Try.prog) Try.underlying33 Try.underlying5 Try.underlying9 d
  clear hx hy hA hB hc1 hc2 hd1 hd2
  go_enter Try.func53, Try.ntmps53
  go_wp2_with fail
  go_ret
  exact ⟨by simp [Bool.beq_eq_decide_eq], rfl⟩

/-- ref17.Same -/
theorem samePieces {Q Q' : Nat → Prop} {w : World} {v u : Value} {xs ys : List (List UInt8)} (hx : Rep.byte.list.list.val Q w v xs) (hy : Rep.byte.list.list.val Q' w u ys) :
    Calls Try.prog 35 #[v, u] w fun e w' => e = .returned (.bool (decide (xs = ys))) ∧ ∃ n, w' = w.drewN n := by
  obtain ⟨A, c, rfl, hc1, hc2, hA⟩ := Rep.val_list hx
  obtain ⟨B, d, rfl, hd1, hd2, hB⟩ := Rep.val_list hy
  clear hx hy
  unfold maxLen at hc2 hd2
  by_cases hlen : xs.length = ys.length
  · have hne : ((xs.length : Int) != (ys.length : Int)) = false := by simp [hlen]
    have H := Lib.hid hlen
    clear hlen
    go_enter Try.func35, Try.ntmps35
    go_wp2_with fail
    go_loopw [5] (fun i wr => ∃ k : Nat, i = .int .i64 k ∧ k ≤ xs.length ∧ xs.take k = ys.take k ∧ ∃ n, w.drewN n = wr) (fun i _ => xs.length - (intOf i).toNat)
    case atStart => exact ⟨0, rfl, Nat.zero_le _, by simp, 0, rfl⟩
    case round =>
      obtain ⟨k, rfl, hk, htk, n, rfl⟩ := hrel
      by_cases hlt : k < xs.length
      · obtain ⟨b, off, A1, c1, rfl, cx, q1, q2, hA1⟩ := hA.list (List.getElem?_eq_getElem hlt)
        have hlt' : k < ys.length := by rw [← H.out]; exact hlt
        obtain ⟨b', off', B1, d1, rfl, cy, q3, q4, hB1⟩ := hB.list (List.getElem?_eq_getElem hlt')
        have T := Lib.hid htk
        clear htk
        have i1 : (k : Int) < (xs.length : Int) := by omega
        have i2 : (k : Int) < (ys.length : Int) := by omega
        have hs : ∀ m, Calls Try.prog 53 #[.slice A1 xs[k].length c1, .slice B1 ys[k].length d1] (w.drewN m) fun e w' => e = .returned (.bool (decide (xs[k] = ys[k]))) ∧ w' = w.drewN m :=
          fun m => sameBytes (Rep.list_val rfl q1 q2 (hA1.drewN m)) (Rep.list_val rfl q3 q4 (hB1.drewN m))
        clear q1 q2 q3 q4 hA1 hB1
        generalize hX : xs[k] = x at *
        generalize hY : ys[k] = y at *
        have HX := Lib.hid hX
        have HY := Lib.hid hY
        have HS := Lib.hid hs
        clear hX hY hs
        by_cases hxy : x = y
        · have HXY := Lib.hid hxy
          have hd : decide (x = y) = true := by simp [hxy]
          clear hxy
          go_wp2_with fail
          go_quiet ((go_at_call 53; exact q_same (HS.out _)))
          go_wp2_with fail
          go_roundw
          case rel => exact ⟨k + 1, by go_num, by omega, by rw [List.take_succ_eq_append_getElem hlt, List.take_succ_eq_append_getElem hlt', T.out, HX.out, HY.out, HXY.out], _, rfl⟩
          case measure => simp [intOf]; omega
        · have HXY := Lib.hid hxy
          have hd : decide (x = y) = false := by simp [hxy]
          clear hxy
          go_wp2_with fail
          go_quiet ((go_at_call 53; exact q_same (HS.out _)))
          go_wp2_with fail
          go_ret
          refine ⟨?_, by rw [World.drewN_drewN]; exact ⟨_, rfl⟩⟩
          have : ¬ xs = ys := by rintro rfl; exact HXY.out (HX.out.symm.trans HY.out)
          simp [this]
      · have hk' : k = xs.length := by omega
        have hall : xs = ys := by rw [← List.take_length (l := xs), ← hk', htk, hk', H.out, List.take_length]
        have HA := Lib.hid hall
        have HK := Lib.hid hk'
        clear hall hk' htk
        have i1 : ¬ (k : Int) < (xs.length : Int) := by omega
        go_wp2_with fail
        go_ret
        exact ⟨by simp [HA.out], _, rfl⟩
  · have hne : ((xs.length : Int) != (ys.length : Int)) = true := by simp; omega
    have H := Lib.hid hlen
    clear hlen
    go_enter Try.func35, Try.ntmps35
    go_wp2_with fail
    go_ret
    refine ⟨?_, 0, rfl⟩
    have : ¬ xs = ys := by rintro rfl; exact H.out rfl
    simp [this]
end Go.Proofs.Yteljibjbndpncaa
/- Walks of the library's small copies. -/
namespace Go.Proofs.Yteljibjbndpncaa
open Go.RowKit

theorem info22 : (Try.prog.info? 33).map (fun i => (i.zero, i.size, i.bytes)) = some (some (.slice none 0 0), 1, 24) := by kernel_rfl
theorem info5 : (Try.prog.info? 5).map (fun i => (i.zero, i.size, i.bytes)) = some (some (.int .u8 0), 1, 1) := by kernel_rfl

/-- bytes.Clone -/
theorem bytesClone {Q : Nat → Prop} {w : World} {v : Value} {l : List UInt8} (hx : Rep.byte.list.val Q w v l) (hl : l.length ≤ 100000000000000) :
    Calls Try.prog 50 #[v] w (Res Rep.byte.list (fun b => w.heap.size ≤ b) w l) := by
  obtain ⟨A, c, rfl, hc1, hc2, hA⟩ := Rep.val_list hx
  unfold maxLen at hc2
  cases A with
  | none =>
    have hnil : l = [] := by
      rcases Nat.eq_zero_or_pos l.length with h | h
      · exact List.eq_nil_of_length_eq_zero h
      · obtain ⟨b, off, h⟩ := hA.addr h; cases h
    subst hnil
    have he := fun w => Lib.run_eql_slice_nil (P := Try.prog) w 33 5 none 0 c 0 0 Try.underlying33
    go_enter Try.func50, Try.ntmps50
    go_wp2_with fail
    go_ret
    exact ⟨_, rfl, Rep.val_nil (by simp [maxLen]), Below.refl _ _⟩
  | some a =>
    have he := fun w => Lib.run_eql_slice_nil (P := Try.prog) w 33 5 (some a) l.length c 0 0 Try.underlying33
    have HX := Lib.hid (show Rep.byte.list.val (fun b => b < w.heap.size) (w.alloc (.cells #[] 5)) (.slice (some a) l.length c) l from Rep.val_keep (w := w) (fun b _ hl => ⟨hl.lt, Below.heap_alloc _ _ _ hl.lt⟩) hx)
    have HA := Lib.hid (show Rep.byte.acc 5 w.heap.size (fun _ => False) (w.alloc (.cells #[] 5)) (.slice (some ⟨w.heap.size, 0, none⟩) 0 0) [] from Rep.acc_made w #[] 0 (Nat.le_refl _) (by simp [maxLen]) (by simp))
    have HB1 := Lib.hid (show ([] : List UInt8).length + l.length ≤ maxLen from by simp [maxLen]; omega)
    have HB2 := Lib.hid (show (([] : List UInt8).length + l.length) * 1 ≤ 140737488355328 from by simp; omega)
    have HB3 := Lib.hid (show w.heap.size ≤ (w.alloc (.cells #[] 5)).heap.size from by simp)
    clear hx hA
    go_enter Try.func50, Try.ntmps50
    go_wp2_with (refine wpList_spread_leaf (e := 5) (base := w.heap.size) (Q := fun _ => False) Rep.leaf_byte rfl _ _ 33 rfl (.int .u8 0) 1 1 Try.underlying33 info5 rfl (by decide) rfl _ [] (by exact rfl) HA.out _ l (by exact rfl) HX.out HB1.out HB2.out HB3.out ?_; intro v' w' hacc' hgr hat)
    go_ret
    exact ⟨_, rfl, by simpa using Rep.acc_fresh hacc', Rep.acc_below HA.out ((Below.refl _ w).alloc (Nat.le_refl _) _) hgr HB3.out⟩
end Go.Proofs.Yteljibjbndpncaa
