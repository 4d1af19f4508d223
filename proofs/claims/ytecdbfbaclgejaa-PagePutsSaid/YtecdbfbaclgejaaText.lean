/- Walks of the small functions on texts as bytes. -/
import Derived.Test.YtecdbfbaclgejaaLe
import Derived.Lib.AppendStr
import Derived.Lib.ConvBytes
import Derived.Laws.IdiomStrings
namespace Go.Proofs.Ytecdbfbaclgejaa
open Go.RowKit

/-- '[]byte(s)'. -/
theorem wpList_text_bytes {P : Program} {w : World} {ops : Array Oper} {rest : List Oper} {o : Oper} {a : Act} {R : Exit → Act → World → Prop} (hg : o.guard = none) (x : Operand) (src dst : TypeId)
    (ho : o.op = .convert src dst x) (hs : P.underlying src = some .string) (hd : P.underlying dst = some (.slice 5)) (he : P.underlying 5 = some (.int .u8)) (l : List UInt8) (hx : a.eval x = .string ⟨l.toArray⟩) (hl : l.length ≤ 1000000000)
    (K : ∀ v' w', Rep.byte.list.val (fun b => w.heap.size ≤ b) w' v' l → Below w.heap.size w w' → wpList P ops R rest (a.put o.dst v') w') :
    wpList P ops R (o :: rest) a w := by
  refine wpList_plain hg fun K2 hK2 => ?_
  have hr := run_bytes_of_string (P := P) w src dst 5 ⟨l.toArray⟩ hs hd he
  obtain ⟨cap, hcap⟩ : ∃ cap, cap = grownCap w (ByteArray.mk l.toArray).size 0 5 := ⟨_, rfl⟩
  have hsz : (ByteArray.mk l.toArray).size = l.length := by simp [ByteArray.size]
  have hge : (ByteArray.mk l.toArray).size ≤ cap := by rw [hcap]; exact grownCap_ge w _ 0 5
  have hle : cap ≤ maxLen := by rw [hcap]; exact grownCap_le_maxLen w _ 0 5 (by rw [hsz]; unfold maxLen; omega)
  rw [← hcap] at hr
  clear hcap
  unfold Oper.wp execOp
  simp only [ho, Sem.run_bind, Sem.run_pure, Result.andThen_ok, hx, hr]
  refine hK2 _ _ (K _ _ ?_ ?_)
  · rw [hsz] at hge ⊢
    refine Rep.list_val rfl hge hle ⟨_, Rep.byte_row l, fun _ => ⟨w.heap.size, 0, rfl, Nat.le_refl _, ?_, fun j u hj => ?_⟩⟩
    · exact ⟨_, _, _, heap_alloc_new w.drew _⟩
    · have hb : ∀ o, (w.drew.alloc o).heap[w.heap.size]? = some o := fun o => heap_alloc_new w.drew o
      rw [cell_of_row _ _ _ _ _ _ (hb _), Nat.zero_add, ← hj]
      have hj' : j < l.length := by have := (List.getElem?_eq_some_iff.1 hj).1; simpa using this
      simp [bytesRow, Array.getElem?_append, hj']
  · exact ((Below.refl _ w).drew).alloc (Nat.le_refl _) _

/-- 'append(b, s...)', s a text. -/
theorem wpList_spread_text {P : Program} {base : Nat} {w : World} {ops : Array Oper} {rest : List Oper} {o : Oper} {a : Act} {R : Exit → Act → World → Prop} (hg : o.guard = none) (s x : Operand) (t tx : TypeId)
    (ho : o.op = .call { callee := .builtin .append, args := #[s, x], argTypes := #[t, tx] })
    (ht : P.underlying t = some (.slice 5)) (hu : P.underlying tx = some .string) (hi : (P.info? 5).map (fun i => (i.zero, i.size, i.bytes)) = some (some (.int .u8 0), 1, 1))
    (v : Value) (xs : List UInt8) (hs : a.eval s = v) (h : Rep.byte.acc 5 base (fun _ => False) w v xs) (ys : List UInt8) (hx : a.eval x = .string ⟨ys.toArray⟩)
    (h63 : xs.length + ys.length ≤ 140737488355328) (hbase : base ≤ w.heap.size)
    (K : ∀ v' w', Rep.byte.acc 5 base (fun _ => False) w' v' (xs ++ ys) → w.grownBy w' v.ownBlock → wpList P ops R rest (a.put o.dst v') w') :
    wpList P ops R (o :: rest) a w := by
  obtain ⟨i, hi, hh⟩ := Option.map_eq_some_iff.1 hi
  simp only [Prod.mk.injEq] at hh
  obtain ⟨hz, hs', hby⟩ := hh
  obtain ⟨cells, h1, h2⟩ := h
  have hsz : (ByteArray.mk ys.toArray).size = ys.length := by simp [ByteArray.size]
  obtain ⟨v', w', q1, q2, q3, _⟩ := Lib.run_append_own_string (P := P) w base t tx o.type 5 i ht hu hi hz hs' hby v xs.length cells h1 ⟨ys.toArray⟩ (by rw [hsz]; unfold maxLen; omega) (by rw [hsz]; omega) hbase
  refine wpList_plain hg fun K2 hK2 => ?_
  unfold Oper.wp execOp
  simp only [ho, resolve, invoke, builtin, Sem.run_bind, Sem.run_pure, Result.andThen_ok, List.map_toArray, List.map_cons, List.map_nil, hs, hx, q1]
  refine hK2 _ _ (K v' w' ⟨cells ++ Lib.strCells ⟨ys.toArray⟩, ?_, ?_⟩ q3)
  · rw [List.length_append, ← hsz]; exact q2
  · exact Rep.row_append (Rep.row_leaf Rep.leaf_byte h2) (Rep.byte_row ys)

def textBytes (s : List UInt8) : List UInt8 := num 2 (s.take 65535).length ++ s.take 65535

theorem wf_i64 {n : Int} (h1 : -9223372036854775808 ≤ n) (h2 : n ≤ 9223372036854775807) : (Lit.int .i64 n).wf = true := by
  simp [Lit.wf, IntKind.min, IntKind.max, IntKind.signed, IntKind.bits]; omega
theorem of_wf_i64 {n : Int} (h : (Lit.int .i64 n).wf = true) : -9223372036854775808 ≤ n ∧ n ≤ 9223372036854775807 := by
  simpa [Lit.wf, IntKind.min, IntKind.max, IntKind.signed, IntKind.bits] using h
theorem num_length (width n : Int) : (num width n).length ≤ 8 := by simp [num]; have := wide_le width; omega
theorem extract_front (s : List UInt8) (n : Nat) : (ByteArray.mk s.toArray).extract 0 n = ⟨(s.take n).toArray⟩ := by
  apply ByteArray.ext
  apply Array.ext'
  simp [ByteArray.data_extract]

set_option maxRecDepth 10000 in
/-- le.PutText -/
theorem putText_calls {Q : Nat → Prop} {w : World} {v : Value} {l s : List UInt8} (hx : Rep.byte.list.val Q w v l) (hl : l.length ≤ 100000000) (hs : s.length ≤ maxLen) :
    Calls Try.prog 215 #[v, .string ⟨s.toArray⟩] w (ResA Rep.byte 5 w (l ++ textBytes s)) := by
  have hs' : (s.length : Int) ≤ 9223372036854775807 := by unfold maxLen at hs; omega
  have hsz : (ByteArray.mk s.toArray).size = s.length := by simp [ByteArray.size]
  obtain ⟨A, c, rfl, hc1, hc2, hA⟩ := Rep.val_list hx
  have HX := Lib.hid hx
  clear hx hA
  have NL := Lib.hid (num_length 2)
  by_cases hlong : (s.length : Int) ≤ 65535
  · have E := Lib.hid (show (ByteArray.mk s.toArray).extract 0 s.length = ⟨s.toArray⟩ by rw [extract_front, List.take_length])
    have T := Lib.hid (show textBytes s = num 2 (s.length : Int) ++ s by rw [textBytes, List.take_of_length_le (by omega)])
    have S := Lib.hid (show (l ++ num 2 (s.length : Int)).length + s.length ≤ 140737488355328 by have := NL.out (s.length : Int); simp; omega)
    go_enter Try.func215, Try.ntmps215
    go_wp2_with (first
      | (go_at_call 116; refine (put_calls HX.out (by omega) rfl (wf_i64 (by omega) (by omega))).mono ?_; rintro e w1 ⟨u, rfl, hu, hb⟩)
      | (refine wpList_spread_text (base := w.heap.size) rfl _ _ 22 9 rfl Try.underlying22 Try.underlying9 info5 _ _ (by exact rfl) hu s (by exact congrArg Value.string E.out) S.out hb.size ?_; intro v' w' hacc' hgr))
    go_ret
    exact ⟨_, rfl, by rw [T.out, ← List.append_assoc]; exact hacc', Rep.acc_below hu hb hgr hb.size⟩
  · have i1 : (65535 : Int) < s.length := by omega
    have E := Lib.hid (show (ByteArray.mk s.toArray).extract 0 65535 = ⟨(s.take 65535).toArray⟩ by rw [extract_front])
    have hlen : (s.take 65535).length = 65535 := by rw [List.length_take]; omega
    have T := Lib.hid (show textBytes s = num 2 65535 ++ s.take 65535 by rw [textBytes, hlen]; rfl)
    have HL := Lib.hid hlen
    have hmin := Lib.hid (show ((min 65535 s.length : Nat) : Int) = 65535 by omega)
    clear hlen
    generalize s.take 65535 = s' at E T HL
    have S := Lib.hid (show (l ++ num 2 65535).length + s'.length ≤ 140737488355328 by have := NL.out 65535; have := HL.out; simp; omega)
    go_enter Try.func215, Try.ntmps215
    go_wp2_with (first
      | (go_at_call 116; rw [hmin.out]; refine (put_calls HX.out (by omega) rfl (wf_i64 (by omega) (by omega))).mono ?_; rintro e w1 ⟨u, rfl, hu, hb⟩)
      | (refine wpList_spread_text (base := w.heap.size) rfl _ _ 22 9 rfl Try.underlying22 Try.underlying9 info5 _ _ (by exact rfl) hu s' (by exact congrArg Value.string E.out) S.out hb.size ?_; intro v' w' hacc' hgr))
    go_ret
    exact ⟨_, rfl, by rw [T.out, ← List.append_assoc]; exact hacc', Rep.acc_below hu hb hgr hb.size⟩

set_option maxRecDepth 10000 in
set_option maxHeartbeats 1000000 in
/-- ref01.Text -/
theorem rtext_calls {w : World} {s : List UInt8} (hs : s.length ≤ maxLen) :
    Calls Try.prog 216 #[.string ⟨s.toArray⟩] w (ResA Rep.byte 5 w (textBytes s)) := by
  have hs' : (s.length : Int) ≤ 9223372036854775807 := by unfold maxLen at hs; omega
  have hsz : (ByteArray.mk s.toArray).size = s.length := by simp [ByteArray.size]
  have NL := Lib.hid (num_length 2)
  by_cases hlong : (s.length : Int) ≤ 65535
  · have T := Lib.hid (show textBytes s = num 2 (s.length : Int) ++ s by rw [textBytes, List.take_of_length_le (by omega)])
    have S1 := Lib.hid (show (num 2 (s.length : Int)).length + s.length ≤ maxLen by have := NL.out (s.length : Int); unfold maxLen; omega)
    have S2 := Lib.hid (show ((num 2 (s.length : Int)).length + s.length) * 1 ≤ 140737488355328 by have := NL.out (s.length : Int); omega)
    go_enter Try.func216, Try.ntmps216
    go_wp2_with (first
      | (go_at_call 157; refine (rnum_calls rfl (wf_i64 (by omega) (by omega))).mono ?_; rintro e w1 ⟨u, rfl, hu, hb⟩)
      | (refine wpList_text_bytes rfl _ 9 22 rfl Try.underlying9 Try.underlying22 Try.underlying5 s (by exact rfl) (by omega) ?_; intro v2 w2 hv2 hb2)
      | (refine wpList_spread_leaf (e := 5) (base := w.heap.size) (Q := fun _ => False) Rep.leaf_byte rfl _ _ 22 rfl (.int .u8 0) 1 1 Try.underlying22 info5 rfl (by decide) rfl _ _ (by exact rfl) (Rep.acc_later hu hb2) _ s (by exact rfl) hv2 S1.out S2.out (Nat.le_trans hb.size hb2.size) ?_; intro v' w' hacc' hgr hat))
    go_ret
    exact ⟨_, rfl, by rw [T.out]; exact hacc', Rep.acc_below (Rep.acc_later hu hb2) (hb.trans (hb2.mono hb.size)) hgr (Nat.le_trans hb.size hb2.size)⟩
  · have i1 : (65535 : Int) < s.length := by omega
    have E := Lib.hid (show (ByteArray.mk s.toArray).extract 0 65535 = ⟨(s.take 65535).toArray⟩ by rw [extract_front])
    have hlen : (s.take 65535).length = 65535 := by rw [List.length_take]; omega
    have T := Lib.hid (show textBytes s = num 2 65535 ++ s.take 65535 by rw [textBytes, hlen]; rfl)
    have HL := Lib.hid hlen
    have hmin := Lib.hid (show ((min 65535 s.length : Nat) : Int) = 65535 by omega)
    clear hlen
    generalize s.take 65535 = s' at E T HL
    have S1 := Lib.hid (show (num 2 65535).length + s'.length ≤ maxLen by have := NL.out 65535; have := HL.out; unfold maxLen; omega)
    have S2 := Lib.hid (show ((num 2 65535).length + s'.length) * 1 ≤ 140737488355328 by have := NL.out 65535; have := HL.out; omega)
    have S3 := Lib.hid (show s'.length ≤ 1000000000 by have := HL.out; omega)
    go_enter Try.func216, Try.ntmps216
    go_wp2_with (first
      | (go_at_call 157; rw [hmin.out]; refine (rnum_calls rfl (wf_i64 (by omega) (by omega))).mono ?_; rintro e w1 ⟨u, rfl, hu, hb⟩)
      | (refine wpList_text_bytes rfl _ 9 22 rfl Try.underlying9 Try.underlying22 Try.underlying5 s' (by exact congrArg Value.string E.out) S3.out ?_; intro v2 w2 hv2 hb2)
      | (refine wpList_spread_leaf (e := 5) (base := w.heap.size) (Q := fun _ => False) Rep.leaf_byte rfl _ _ 22 rfl (.int .u8 0) 1 1 Try.underlying22 info5 rfl (by decide) rfl _ _ (by exact rfl) (Rep.acc_later hu hb2) _ s' (by exact rfl) hv2 S1.out S2.out (Nat.le_trans hb.size hb2.size) ?_; intro v' w' hacc' hgr hat))
    go_ret
    exact ⟨_, rfl, by rw [T.out]; exact hacc', Rep.acc_below (Rep.acc_later hu hb2) (hb.trans (hb2.mono hb.size)) hgr (Nat.le_trans hb.size hb2.size)⟩
end Go.Proofs.Ytecdbfbaclgejaa
