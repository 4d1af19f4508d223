/- Walks of the small functions on texts as bytes. -/
import Derived.Test.YthjjnlilpklacaaSupLe
import Derived.Lib.AppendStr
import Derived.Lib.ConvBytes
import Derived.Laws.IdiomStrings
namespace Go.Proofs.Ythjjnlilpklacaa
open Go.RowKit

/-- '[]byte(s)'. -/
theorem wpList_text_bytes {P : Program} {w : World} {ops : Array Oper} {rest : List Oper} {o : Oper} {a : Act} {R : Exit → Act → World → Prop} (hg : o.guard = none) (x : Operand) (src dst : TypeId)
    (ho : o.op = .convert src dst x) (hs : P.underlying src = some .string) (hd : P.underlying dst = some (.slice 5)) (he : P.underlying 5 = some (.int .u8)) (l : List UInt8) (hx : a.eval x = .string ⟨l.toArray⟩) (hl : l.length ≤ 1000000000)
    (K : ∀ v' w', Rep.byte.list.val (fun b => w.heap.size ≤ b) w' v' l → Below w.heap.size w w' → wpList P ops R rest (a.put o.dst v') w') :
    wpList P ops R (o :: rest) a w := by
  refine wpList_plain hg fun K2 hK2 => ?_
  have hr := run_bytes_of_string (P := P) w src dst 5 ⟨l.toArray⟩ hs hd he
  obtain ⟨cap, hcap⟩ : ∃ cap, cap = grownCap w (ByteArray.mk l.toArray).size 0 5 := ⟨_, rfl⟩
  have hsz : (ByteArray.mk l.toArray).size = l.length := by simp [ByteArray.size]
  have hge : (ByteArray.mk l.toArray).size ≤ cap := by rw [hcap]; exact grownCap_ge w _ 0 5
  have hle : cap ≤ maxLen := by rw [hcap]; exact grownCap_le_maxLen w _ 0 5 (by rw [hsz]; unfold maxLen; omega)
  rw [← hcap] at hr
  clear hcap
  unfold Oper.wp execOp
  simp only [ho, Sem.run_bind, Sem.run_pure, Result.andThen_ok, hx, hr]
  refine hK2 _ _ (K _ _ ?_ ?_)
  · rw [hsz] at hge ⊢
    refine Rep.list_val rfl hge hle ⟨_, Rep.byte_row l, fun _ => ⟨w.heap.size, 0, rfl, Nat.le_refl _, ?_, fun j u hj => ?_⟩⟩
    · exact ⟨_, _, _, heap_alloc_new w.drew _⟩
    · have hb : ∀ o, (w.drew.alloc o).heap[w.heap.size]? = some o := fun o => heap_alloc_new w.drew o
      rw [cell_of_row _ _ _ _ _ _ (hb _), Nat.zero_add, ← hj]
      have hj' : j < l.length := by have := (List.getElem?_eq_some_iff.1 hj).1; simpa using this
      simp [bytesRow, Array.getElem?_append, hj']
  · exact ((Below.refl _ w).drew).alloc (Nat.le_refl _) _

/-- 'append(b, s...)', s a text. -/
theorem wpList_spread_text {P : Program} {base : Nat} {w : World} {ops : Array Oper} {rest : List Oper} {o : Oper} {a : Act} {R : Exit → Act → World → Prop} (hg : o.guard = none) (s x : Operand) (t tx : TypeId)
    (ho : o.op = .call { callee := .builtin .append, args := #[s, x], argTypes := #[t, tx] })
    (ht : P.underlying t = some (.slice 5)) (hu : P.underlying tx = some .string) (hi : (P.info? 5).map (fun i => (i.zero, i.size, i.bytes)) = some (some (.int .u8 0), 1, 1))
    (v : Value) (xs : List UInt8) (hs : a.eval s = v) (h : Rep.byte.acc 5 base (fun _ => False) w v xs) (ys : List UInt8) (hx : a.eval x = .string ⟨ys.toArray⟩)
    (h63 : xs.length + ys.length ≤ 140737488355328) (hbase : base ≤ w.heap.size)
    (K : ∀ v' w', Rep.byte.acc 5 base (fun _ => False) w' v' (xs ++ ys) → w.grownBy w' v.ownBlock → wpList P ops R rest (a.put o.dst v') w') :
    wpList P ops R (o :: rest) a w := by
  obtain ⟨i, hi, hh⟩ := Option.map_eq_some_iff.1 hi
  simp only [Prod.mk.injEq] at hh
  obtain ⟨hz, hs', hby⟩ := hh
  obtain ⟨cells, h1, h2⟩ := h
  have hsz : (ByteArray.mk ys.toArray).size = ys.length := by simp [ByteArray.size]
  obtain ⟨v', w', q1, q2, q3, _⟩ := Lib.run_append_own_string (P := P) w base t tx o.type 5 i ht hu hi hz hs' hby v xs.length cells h1 ⟨ys.toArray⟩ (by rw [hsz]; unfold maxLen; omega) (by rw [hsz]; omega) hbase
  refine wpList_plain hg fun K2 hK2 => ?_
  unfold Oper.wp execOp
  simp only [ho, resolve, invoke, builtin, Sem.run_bind, Sem.run_pure, Result.andThen_ok, List.map_toArray, List.map_cons, List.map_nil, hs, hx, q1]
  refine hK2 _ _ (K v' w' ⟨cells ++ Lib.strCells ⟨ys.toArray⟩, ?_, ?_⟩ q3)
  · rw [List.length_append, ← hsz]; exact q2
  · exact Rep.row_append (Rep.row_leaf Rep.leaf_byte h2) (Rep.byte_row ys)

def textBytes (s : List UInt8) : List UInt8 := num 2 (s.take 65535).length ++ s.take 65535

theorem wf_i64 {n : Int} (h1 : -9223372036854775808 ≤ n) (h2 : n ≤ 9223372036854775807) : (Lit.int .i64 n).wf = true := by
  simp [Lit.wf, IntKind.min, IntKind.max, IntKind.signed, IntKind.bits]; omega
theorem of_wf_i64 {n : Int} (h : (Lit.int .i64 n).wf = true) : -9223372036854775808 ≤ n ∧ n ≤ 9223372036854775807 := by
  simpa [Lit.wf, IntKind.min, IntKind.max, IntKind.signed, IntKind.bits] using h
theorem num_length (width n : Int) : (num width n).length ≤ 8 := by simp [num]; have := wide_le width; omega
theorem extract_front (s : List UInt8) (n : Nat) : (ByteArray.mk s.toArray).extract 0 n = ⟨(s.take n).toArray⟩ := by
  apply ByteArray.ext
  apply Array.ext'
  simp [ByteArray.data_extract]

end Go.Proofs.Ythjjnlilpklacaa
