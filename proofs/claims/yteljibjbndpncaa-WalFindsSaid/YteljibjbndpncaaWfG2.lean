/- Texts on which the proofs stand: Le, Text. No condition is laid on any input. -/
import Derived.Test.YteljibjbndpncaaWfG1
import Derived.Lib.AppendStr
import Derived.Lib.ConvBytes
import Derived.Laws.IdiomStrings
/- Walks of the small functions on numbers as0 bytes. -/
namespace Go.Proofs.Yteljibjbndpncaa
open Go.RowKit

def wide (n : Int) : Int := if n < 1 then 1 else if 8 < n then 8 else n
theorem wide_ge (n : Int) : 1 ≤ wide n := by unfold wide; split <;> (try split) <;> omega
theorem wide_le (n : Int) : wide n ≤ 8 := by unfold wide; split <;> (try split) <;> omega

/-- le.wide -/
theorem wide_calls (n : Int) (w : World) :
    Calls Try.prog 113 #[.int .i64 n] w fun e w' => e = .returned (.int .i64 (wide n)) ∧ w' = w := by
  by_cases h : n < 1
  · have hf : wide n = 1 := by rw [wide, if_pos h]
    have HF := Lib.hid hf
    clear hf
    go_enter Try.func113, Try.ntmps113
    go_wp2_with fail
    go_ret
    exact ⟨by rw [HF.out]; rfl, rfl⟩
  · by_cases h' : 8 < n
    · have hf : wide n = 8 := by rw [wide, if_neg h, if_pos h']
      have HF := Lib.hid hf
      clear hf
      go_enter Try.func113, Try.ntmps113
      go_wp2_with fail
      go_ret
      exact ⟨by rw [HF.out]; rfl, rfl⟩
    · have hf : wide n = n := by rw [wide, if_neg h, if_neg h']
      have HF := Lib.hid hf
      clear hf
      go_enter Try.func113, Try.ntmps113
      go_wp2_with fail
      go_ret
      exact ⟨by rw [HF.out]; rfl, rfl⟩
/-- ref01.wide -/
theorem rwide_calls (n : Int) (w : World) :
    Calls Try.prog 90 #[.int .i64 n] w fun e w' => e = .returned (.int .i64 (wide n)) ∧ w' = w := by
  by_cases h : n < 1
  · have hf : wide n = 1 := by rw [wide, if_pos h]
    have HF := Lib.hid hf
    clear hf
    go_enter Try.func90, Try.ntmps90
    go_wp2_with fail
    go_ret
    exact ⟨by rw [HF.out]; rfl, rfl⟩
  · by_cases h' : 8 < n
    · have hf : wide n = 8 := by rw [wide, if_neg h, if_pos h']
      have HF := Lib.hid hf
      clear hf
      go_enter Try.func90, Try.ntmps90
      go_wp2_with fail
      go_ret
      exact ⟨by rw [HF.out]; rfl, rfl⟩
    · have hf : wide n = n := by rw [wide, if_neg h, if_neg h']
      have HF := Lib.hid hf
      clear hf
      go_enter Try.func90, Try.ntmps90
      go_wp2_with fail
      go_ret
      exact ⟨by rw [HF.out]; rfl, rfl⟩

/-- A call that returns a slice of its own that reads as0 x. -/
def ResA {α : Type} (r : Rep α) (e : Nat) (w : World) (x : List α) (en : Ending) (w' : World) : Prop := ∃ u, en = .returned u ∧ r.acc e w.heap.size (fun _ => False) w' u x ∧ Below w.heap.size w w'
theorem ResA.res {α : Type} {r : Rep α} {e : Nat} {w : World} {x : List α} {en : Ending} {w' : World} (h : ResA r e w x en w') : Res r.list (fun b => w.heap.size ≤ b) w x en w' := by
  obtain ⟨u, h1, h2, h3⟩ := h
  exact ⟨u, h1, Rep.acc_fresh h2, h3⟩
theorem Rep.acc_later {α : Type} {r : Rep α} {e base : Nat} {Q : Nat → Prop} {w w' : World} {v : Value} {xs : List α} (h : r.acc e base Q w v xs) (hb : Below w.heap.size w w') : r.acc e base Q w' v xs :=
  Rep.acc_keep (fun b _ hl => hb.block b hl.lt) (fun _ h _ => h) h

/-- slices.Clone of bytes -/
theorem sliceClone {Q : Nat → Prop} {w : World} {v : Value} {l : List UInt8} (hx : Rep.byte.list.val Q w v l) (hl : l.length ≤ 100000000000000) :
    Calls Try.prog 97 #[v] w (ResA Rep.byte 5 w l) := by
  obtain ⟨A, c, rfl, hc1, hc2, hA⟩ := Rep.val_list hx
  unfold maxLen at hc2
  cases A with
  | none =>
    have hnil : l = [] := by
      rcases Nat.eq_zero_or_pos l.length with h | h
      · exact List.eq_nil_of_length_eq_zero h
      · obtain ⟨b, off, h⟩ := hA.addr h; cases h
    subst hnil
    have he := fun w => Lib.run_eql_slice_nil (P := Try.prog) w 33 5 none 0 c 0 0 Try.underlying33
    go_enter Try.func97, Try.ntmps97
    go_wp2_with fail
    go_ret
    exact ⟨_, rfl, Rep.acc_nil, Below.refl _ _⟩
  | some a =>
    have he := fun w => Lib.run_eql_slice_nil (P := Try.prog) w 33 5 (some a) l.length c 0 0 Try.underlying33
    have HX := Lib.hid (show Rep.byte.list.val (fun b => b < w.heap.size) (w.alloc (.cells #[] 5)) (.slice (some a) l.length c) l from Rep.val_keep (w := w) (fun b _ hl => ⟨hl.lt, Below.heap_alloc _ _ _ hl.lt⟩) hx)
    have HA := Lib.hid (show Rep.byte.acc 5 w.heap.size (fun _ => False) (w.alloc (.cells #[] 5)) (.slice (some ⟨w.heap.size, 0, none⟩) 0 0) [] from Rep.acc_made w #[] 0 (Nat.le_refl _) (by simp [maxLen]) (by simp))
    have HB1 := Lib.hid (show ([] : List UInt8).length + l.length ≤ maxLen from by simp [maxLen]; omega)
    have HB2 := Lib.hid (show (([] : List UInt8).length + l.length) * 1 ≤ 140737488355328 from by simp; omega)
    have HB3 := Lib.hid (show w.heap.size ≤ (w.alloc (.cells #[] 5)).heap.size from by simp)
    clear hx hA
    go_enter Try.func97, Try.ntmps97
    go_wp2_with (refine wpList_spread_leaf (e := 5) (base := w.heap.size) (Q := fun _ => False) Rep.leaf_byte rfl _ _ 33 rfl (.int .u8 0) 1 1 Try.underlying33 info5 rfl (by decide) rfl _ [] (by exact rfl) HA.out _ l (by exact rfl) HX.out HB1.out HB2.out HB3.out ?_; intro v' w' hacc' hgr hat)
    go_ret
    exact ⟨_, rfl, by simpa using hacc', Rep.acc_below HA.out ((Below.refl _ w).alloc (Nat.le_refl _) _) hgr HB3.out⟩

/-- The bytes of a number. -/
def digit (n : Int) (i : Nat) : UInt8 := UInt8.ofNat (n / 2 ^ (8 * i) % 256).toNat
def num (width n : Int) : List UInt8 := (List.range (wide width).toNat).map (digit n)
theorem digit_cell (n : Int) (i : Nat) {Q : Nat → Prop} {w : World} : Rep.byte.val Q w (.int .u8 (n / 2 ^ (8 * i) % 256)) (digit n i) := by
  have h : ((digit n i).toNat : Int) = n / 2 ^ (8 * i) % 256 := by
    have h1 := Int.emod_nonneg (n / 2 ^ (8 * i)) (b := 256) (by decide)
    have h2 := Int.emod_lt_of_pos (n / 2 ^ (8 * i)) (b := 256) (by decide)
    unfold digit
    simp only [UInt8.toNat_ofNat']
    omega
  exact ⟨[.int .u8 (n / 2 ^ (8 * i) % 256)], rfl, by show _ = _; rw [h]⟩
theorem digits_succ (n : Int) (k : Nat) : (List.range (k + 1)).map (digit n) = (List.range k).map (digit n) ++ [digit n k] := by simp [List.range_succ]

set_option maxRecDepth 10000 in
set_option maxHeartbeats 1000000 in
/-- le.Put -/
theorem put_calls {Q : Nat → Prop} {w : World} {v : Value} {l : List UInt8} {width n : Int} (hx : Rep.byte.list.val Q w v l) (hl : l.length ≤ 1000000000) (hw : (Lit.int .i64 width).wf = true) (hn : (Lit.int .i64 n).wf = true) :
    Calls Try.prog 93 #[v, .int .i64 width, .int .i64 n] w (ResA Rep.byte 5 w (l ++ num width n)) := by
  have hw1 : -9223372036854775808 ≤ width ∧ width ≤ 9223372036854775807 := by simpa [Lit.wf, IntKind.min, IntKind.max, IntKind.signed, IntKind.bits] using hw
  have hn1 : -9223372036854775808 ≤ n ∧ n ≤ 9223372036854775807 := by simpa [Lit.wf, IntKind.min, IntKind.max, IntKind.signed, IntKind.bits] using hn
  obtain ⟨A, c, rfl, hc1, hc2, hA⟩ := Rep.val_list hx
  unfold maxLen at hc2
  have HX := Lib.hid (show Rep.byte.list.val Q w (.slice A l.length l.length) l from Rep.list_val rfl (Nat.le_refl _) (by unfold maxLen; omega) hA)
  clear hx hA
  obtain ⟨W, hW⟩ : ∃ W, W = wide width := ⟨_, rfl⟩
  have g1 := wide_ge width
  have g2 := wide_le width
  rw [← hW] at g1 g2
  have HW := Lib.hid hW
  clear hW
  go_enter Try.func93, Try.ntmps93
  go_wp2_with (first | (go_at_call 97; refine (sliceClone HX.out (by omega)).mono ?_; rintro e w1 ⟨u, rfl, hu, hb⟩) | (go_at_call 113; refine (wide_calls _ _).mono ?_; rintro e w' ⟨rfl, rfl⟩; rw [← HW.out]))
  go_loopw [7, 18] (fun s i wr => ∃ k : Nat, i = .int .i64 k ∧ k ≤ W ∧ Rep.byte.acc 5 w.heap.size (fun _ => False) wr s (l ++ (List.range k).map (digit n)) ∧ Below w.heap.size w wr)
    (fun _ i _ => W.toNat - (intOf i).toNat)
  case atStart => exact ⟨0, rfl, by omega, by simpa using hu, hb⟩
  case round =>
    obtain ⟨k, rfl, hk, hacc, hbel⟩ := hrel
    have hba : w.heap.size ≤ wr.heap.size := hbel.size
    by_cases hlt : (k : Int) < W
    · have S1 := Lib.hid (show (l ++ (List.range k).map (digit n)).length + 1 ≤ maxLen by simp [maxLen]; omega)
      have S2 := Lib.hid (show ((l ++ (List.range k).map (digit n)).length + 1) * 1 ≤ 140737488355328 by simp; omega)
      go_wp2_with (refine wpList_snoc (e := 5) (base := w.heap.size) (Q := fun _ => False) (r := Rep.byte) rfl rfl _ _ 33 _ rfl rfl rfl (.int .u8 0) 1 1 Try.underlying33 info5 rfl (by decide) rfl _ _ hacc (digit n k) _ (by exact rfl) (digit_cell n k) (by exact rfl) (by exact rfl) S1.out S2.out hba ?_; intro s' w' hacc' hgr hat)
      exact ⟨⟨k + 1, by go_num, by omega, by rw [digits_succ, ← List.append_assoc]; exact hacc', Rep.acc_below hacc hbel hgr hba⟩, by simp [intOf]; omega⟩
    · have hkW : k = (wide width).toNat := by have := HW.out; omega
      have HK := Lib.hid hkW
      clear hkW
      go_wp2_with fail
      go_ret
      exact ⟨_, rfl, by rw [num, ← HK.out]; exact hacc, hbel⟩

theorem wrap_u64 (n : Int) : IntKind.u64.wrap n = n % 18446744073709551616 := by simp [IntKind.wrap, IntKind.signed, IntKind.bits]
/-- The rest of a number, behind some of its bytes. -/
theorem u64_step (n : Int) (k : Nat) : n % 18446744073709551616 / 2 ^ (8 * k) / 256 = n % 18446744073709551616 / 2 ^ (8 * (k + 1)) := by
  rw [Nat.mul_add, Int.pow_add, ← Int.ediv_ediv_of_nonneg (Int.pow_nonneg (by decide))]; rfl
theorem u64_digit (n : Int) (k : Nat) (hk : k < 8) : n % 18446744073709551616 / 2 ^ (8 * k) % 256 = n / 2 ^ (8 * k) % 256 := by
  rcases (by omega : k = 0 ∨ k = 1 ∨ k = 2 ∨ k = 3 ∨ k = 4 ∨ k = 5 ∨ k = 6 ∨ k = 7) with rfl | rfl | rfl | rfl | rfl | rfl | rfl | rfl <;> simp only [Nat.reduceMul, Int.reducePow] <;> omega

set_option maxRecDepth 10000 in
set_option maxHeartbeats 1000000 in
/-- ref01.Num -/
theorem rnum_calls {w : World} {width n : Int} (hw : (Lit.int .i64 width).wf = true) (hn : (Lit.int .i64 n).wf = true) :
    Calls Try.prog 62 #[.int .i64 width, .int .i64 n] w (ResA Rep.byte 5 w (num width n)) := by
  have hw1 : -9223372036854775808 ≤ width ∧ width ≤ 9223372036854775807 := by simpa [Lit.wf, IntKind.min, IntKind.max, IntKind.signed, IntKind.bits] using hw
  have hn1 : -9223372036854775808 ≤ n ∧ n ≤ 9223372036854775807 := by simpa [Lit.wf, IntKind.min, IntKind.max, IntKind.signed, IntKind.bits] using hn
  obtain ⟨W, hW⟩ : ∃ W, W = wide width := ⟨_, rfl⟩
  have g1 := wide_ge width
  have g2 := wide_le width
  rw [← hW] at g1 g2
  have HW := Lib.hid hW
  clear hW
  go_enter Try.func62, Try.ntmps62
  go_wp2_with fail
  go_loopw [5, 6, 7] (fun s u i wr => ∃ (k : Nat) (m : Int), i = .int .i64 k ∧ u = .int .u64 m ∧ Hid (m = n % 18446744073709551616 / 2 ^ (8 * k)) ∧ 0 ≤ m ∧ m < 18446744073709551616 ∧ k ≤ W ∧ Rep.byte.acc 5 w.heap.size (fun _ => False) wr s ((List.range k).map (digit n)) ∧ Below w.heap.size w wr)
    (fun _ _ i _ => W.toNat - (intOf i).toNat)
  case atStart => exact ⟨0, _, rfl, by rw [wrap_u64], by simp [Hid], by omega, by omega, by omega, by simpa using Rep.acc_nil, Below.refl _ _⟩
  case round =>
    obtain ⟨k, m, rfl, rfl, hm, m0, m1, hk, hacc, hbel⟩ := hrel
    have hba : w.heap.size ≤ wr.heap.size := hbel.size
    by_cases hlt : (k : Int) < W
    · have S1 := Lib.hid (show ((List.range k).map (digit n)).length + 1 ≤ maxLen by simp [maxLen]; omega)
      have S2 := Lib.hid (show (((List.range k).map (digit n)).length + 1) * 1 ≤ 140737488355328 by simp; omega)
      have D := Lib.hid (show ∀ Q w, Rep.byte.val Q w (.int .u8 (m % 256)) (digit n k) by rw [hm.out, u64_digit n k (by omega)]; exact fun Q w => digit_cell n k)
      have E := Lib.hid (show m / 256 = n % 18446744073709551616 / 2 ^ (8 * (k + 1)) by rw [hm.out, u64_step])
      go_wp2_with (first | (go_at_call 90; refine (rwide_calls _ _).mono ?_; rintro e w' ⟨rfl, rfl⟩; rw [← HW.out]) | (refine wpList_snoc (e := 5) (base := w.heap.size) (Q := fun _ => False) (r := Rep.byte) rfl rfl _ _ 33 _ rfl rfl rfl (.int .u8 0) 1 1 Try.underlying33 info5 rfl (by decide) rfl _ _ hacc (digit n k) _ (by exact rfl) (D.out _ _) (by exact rfl) (by exact rfl) S1.out S2.out hba ?_; intro s' w' hacc' hgr hat))
      exact ⟨⟨k + 1, _, by go_num, rfl, E, by omega, by omega, by omega, by rw [digits_succ]; exact hacc', Rep.acc_below hacc hbel hgr hba⟩, by simp [intOf]; omega⟩
    · have hkW : k = (wide width).toNat := by have := HW.out; omega
      have HK := Lib.hid hkW
      clear hkW
      go_wp2_with (go_at_call 90; refine (rwide_calls _ _).mono ?_; rintro e w' ⟨rfl, rfl⟩; rw [← HW.out])
      go_ret
      exact ⟨_, rfl, by rw [num, ← HK.out]; exact hacc, hbel⟩
end Go.Proofs.Yteljibjbndpncaa
/- Walks of the small functions on texts as0 bytes. -/
namespace Go.Proofs.Yteljibjbndpncaa
open Go.RowKit

/-- '[]byte(s)'. -/
theorem wpList_text_bytes {P : Program} {w : World} {ops : Array Oper} {rest : List Oper} {o : Oper} {a : Act} {R : Exit → Act → World → Prop} (hg : o.guard = none) (x : Operand) (src dst : TypeId)
    (ho : o.op = .convert src dst x) (hs : P.underlying src = some .string) (hd : P.underlying dst = some (.slice 5)) (he : P.underlying 5 = some (.int .u8)) (l : List UInt8) (hx : a.eval x = .string ⟨l.toArray⟩) (hl : l.length ≤ 1000000000)
    (K : ∀ v' w', Rep.byte.list.val (fun b => w.heap.size ≤ b) w' v' l → Below w.heap.size w w' → wpList P ops R rest (a.put o.dst v') w') :
    wpList P ops R (o :: rest) a w := by
  refine wpList_plain hg fun K2 hK2 => ?_
  have hr := run_bytes_of_string (P := P) w src dst 5 ⟨l.toArray⟩ hs hd he
  obtain ⟨cap, hcap⟩ : ∃ cap, cap = grownCap w (ByteArray.mk l.toArray).size 0 5 := ⟨_, rfl⟩
  have hsz : (ByteArray.mk l.toArray).size = l.length := by simp [ByteArray.size]
  have hge : (ByteArray.mk l.toArray).size ≤ cap := by rw [hcap]; exact grownCap_ge w _ 0 5
  have hle : cap ≤ maxLen := by rw [hcap]; exact grownCap_le_maxLen w _ 0 5 (by rw [hsz]; unfold maxLen; omega)
  rw [← hcap] at hr
  clear hcap
  unfold Oper.wp execOp
  simp only [ho, Sem.run_bind, Sem.run_pure, Result.andThen_ok, hx, hr]
  refine hK2 _ _ (K _ _ ?_ ?_)
  · rw [hsz] at hge ⊢
    refine Rep.list_val rfl hge hle ⟨_, Rep.byte_row l, fun _ => ⟨w.heap.size, 0, rfl, Nat.le_refl _, ?_, fun j u hj => ?_⟩⟩
    · exact ⟨_, _, _, heap_alloc_new w.drew _⟩
    · have hb : ∀ o, (w.drew.alloc o).heap[w.heap.size]? = some o := fun o => heap_alloc_new w.drew o
      rw [cell_of_row _ _ _ _ _ _ (hb _), Nat.zero_add, ← hj]
      have hj' : j < l.length := by have := (List.getElem?_eq_some_iff.1 hj).1; simpa using this
      simp [bytesRow, Array.getElem?_append, hj']
  · exact ((Below.refl _ w).drew).alloc (Nat.le_refl _) _

/-- 'append(b, s...)', s a text. -/
theorem wpList_spread_text {P : Program} {base : Nat} {w : World} {ops : Array Oper} {rest : List Oper} {o : Oper} {a : Act} {R : Exit → Act → World → Prop} (hg : o.guard = none) (s x : Operand) (t tx : TypeId)
    (ho : o.op = .call { callee := .builtin .append, args := #[s, x], argTypes := #[t, tx] })
    (ht : P.underlying t = some (.slice 5)) (hu : P.underlying tx = some .string) (hi : (P.info? 5).map (fun i => (i.zero, i.size, i.bytes)) = some (some (.int .u8 0), 1, 1))
    (v : Value) (xs : List UInt8) (hs : a.eval s = v) (h : Rep.byte.acc 5 base (fun _ => False) w v xs) (ys : List UInt8) (hx : a.eval x = .string ⟨ys.toArray⟩)
    (h63 : xs.length + ys.length ≤ 140737488355328) (hbase : base ≤ w.heap.size)
    (K : ∀ v' w', Rep.byte.acc 5 base (fun _ => False) w' v' (xs ++ ys) → w.grownBy w' v.ownBlock → wpList P ops R rest (a.put o.dst v') w') :
    wpList P ops R (o :: rest) a w := by
  obtain ⟨i, hi, hh⟩ := Option.map_eq_some_iff.1 hi
  simp only [Prod.mk.injEq] at hh
  obtain ⟨hz, hs', hby⟩ := hh
  obtain ⟨cells, h1, h2⟩ := h
  have hsz : (ByteArray.mk ys.toArray).size = ys.length := by simp [ByteArray.size]
  obtain ⟨v', w', q1, q2, q3, _⟩ := Lib.run_append_own_string (P := P) w base t tx o.type 5 i ht hu hi hz hs' hby v xs.length cells h1 ⟨ys.toArray⟩ (by rw [hsz]; unfold maxLen; omega) (by rw [hsz]; omega) hbase
  refine wpList_plain hg fun K2 hK2 => ?_
  unfold Oper.wp execOp
  simp only [ho, resolve, invoke, builtin, Sem.run_bind, Sem.run_pure, Result.andThen_ok, List.map_toArray, List.map_cons, List.map_nil, hs, hx, q1]
  refine hK2 _ _ (K v' w' ⟨cells ++ Lib.strCells ⟨ys.toArray⟩, ?_, ?_⟩ q3)
  · rw [List.length_append, ← hsz]; exact q2
  · exact Rep.row_append (Rep.row_leaf Rep.leaf_byte h2) (Rep.byte_row ys)

def textBytes (s : List UInt8) : List UInt8 := num 2 (s.take 65535).length ++ s.take 65535

theorem wf_i64 {n : Int} (h1 : -9223372036854775808 ≤ n) (h2 : n ≤ 9223372036854775807) : (Lit.int .i64 n).wf = true := by
  simp [Lit.wf, IntKind.min, IntKind.max, IntKind.signed, IntKind.bits]; omega
theorem of_wf_i64 {n : Int} (h : (Lit.int .i64 n).wf = true) : -9223372036854775808 ≤ n ∧ n ≤ 9223372036854775807 := by
  simpa [Lit.wf, IntKind.min, IntKind.max, IntKind.signed, IntKind.bits] using h
theorem num_length (width n : Int) : (num width n).length ≤ 8 := by simp [num]; have := wide_le width; omega
theorem extract_front (s : List UInt8) (n : Nat) : (ByteArray.mk s.toArray).extract 0 n = ⟨(s.take n).toArray⟩ := by
  apply ByteArray.ext
  apply Array.ext'
  simp [ByteArray.data_extract]

end Go.Proofs.Yteljibjbndpncaa
