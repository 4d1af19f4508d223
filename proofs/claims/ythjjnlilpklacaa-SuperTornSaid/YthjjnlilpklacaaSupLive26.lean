/- The example of the statements on superblocks, walked. Printed by gen_superlaws.py. -/
import Derived.Test.YthjjnlilpklacaaSupRSuperGet
import Derived.Test.YthjjnlilpklacaaSupSuperChoose
namespace Go.Proofs.Ythjjnlilpklacaa
open Go.RowKit

def supA : DSuper := ⟨0, 4, 2, 4, 0, 0, 0, []⟩
def supB : DSuper := ⟨0, 5, 2, 4, 0, 0, 0, []⟩
theorem supA_right : superRight supA = true := by decide +kernel
theorem supB_right : superRight supB = true := by decide +kernel
theorem live_choose1 : chooseOf (superBytes supA) (superBytes supB) = (1, true) := by
  unfold chooseOf; rw [super_put_get supA_right, super_put_get supB_right]; rfl
theorem superGet_short {s : List UInt8} (h : s.length ≠ 512) : superGet s = none := by
  unfold superGet sealGet; rw [if_neg (fun hh => h hh.1)]
theorem live_choose2 : chooseOf (superBytes supA) ((superBytes supB).drop 1) = (0, true) := by
  unfold chooseOf; rw [super_put_get supA_right, superGet_short (by rw [List.length_drop, superBytes_length]; decide)]
theorem sup_val {Q : Nat → Prop} {w : World} {n : Int} (h : (Lit.int .i64 n).wf = true) : rSuper.val Q w (.agg #[.int .i64 0, .int .i64 n, .int .i64 2, .int .i64 4, .int .i64 0, .int .i64 0, .int .i64 0, .slice none 0 0]) ⟨0, n, 2, 4, 0, 0, 0, []⟩ :=
  rSuper_agg (x := ⟨0, n, 2, 4, 0, 0, 0, []⟩) rfl h rfl rfl rfl rfl rfl ⟨Nat.le_refl _, by simp [maxLen], [], rfl, fun h => absurd h (by simp)⟩
theorem sget (Q : Nat → Prop) (w : World) (v : Value) (l : List UInt8) (h : Rep.byte.list.val Q w v l) : Calls Try.prog 71 #[v] w (SuperGot w l) := superGet_calls h
theorem rget26 (Q : Nat → Prop) (w : World) (v : Value) (l : List UInt8) (h : Rep.byte.list.val Q w v l) : Calls Try.prog 74 #[v] w (SuperGot w l) := rsuperGet_calls h

set_option maxRecDepth 100000 in
set_option maxHeartbeats 1000000 in
/-- live of the statements on superblocks -/
theorem live26 (w : World) : Calls Try.prog 67 #[] w fun e w' => e = .returned (.bool true) ∧ Below w.heap.size w w' := by
  have HC1 := Lib.hid live_choose1
  have HC2 := Lib.hid live_choose2
  have HL := Lib.hid (superBytes_length supB)
  go_enter Try.func67, Try.ntmps67
  go_wp2_with fail
  refine (rsuperPut_calls (x := supA) (Q := fun _ => True) (sup_val rfl) (by decide)).mono ?_
  rintro e w1 ⟨u1, rfl, hu1, hb1⟩
  have HU1 := Lib.hid hu1
  have HB1 := Lib.hid hb1
  clear hu1 hb1
  go_wp2_with fail
  refine (rsuperPut_calls (x := supB) (Q := fun _ => True) (sup_val rfl) (by decide)).mono ?_
  rintro e w2 ⟨u2, rfl, hu2, hb2⟩
  have HU12 := Lib.hid (Rep.val_below HU1.out hb2 fun _ _ h => h.lt)
  have HU2 := Lib.hid hu2
  have HB2 := Lib.hid (HB1.out.trans (hb2.mono HB1.out.size))
  generalize superBytes supA = SA at *
  generalize superBytes supB = SB at *
  obtain ⟨A1, c1, rfl, _, _, _⟩ := Rep.val_list HU12.out
  obtain ⟨A2, c2, rfl, hc2, hm2, hat2⟩ := Rep.val_list hu2
  have HAT := Lib.hid hat2
  clear hu2 hb2 hat2
  go_wp2_with fail
  refine (superChoose_calls sget HU12.out HU2.out).mono ?_
  rintro e w3 ⟨rfl, hb3⟩
  rw [HC1.out]
  have HU13 := Lib.hid (Rep.val_below HU12.out hb3 fun _ _ h => h.lt)
  have hl := HL.out
  obtain ⟨bb, off, hA0⟩ := Rep.At.addr HAT.out (by omega)
  subst hA0
  have HVB := Lib.hid (show Rep.byte.list.val (fun _ => True) w3 (.slice (some ⟨bb, off + 1, none⟩) (SB.length - 1) (c2 - 1)) (SB.drop 1) from
    Rep.list_val (by rw [List.length_drop]) (by omega) (by unfold maxLen at *; omega) (by have := Rep.At.drop (Rep.At.keep (w := w2) (w' := w3) (Q' := fun _ => True) (fun x _ hx => ⟨trivial, hb3.block x hx.lt⟩) HAT.out) (n := 1) (by omega); simpa [Rep.byte] using this))
  have HB3 := Lib.hid (HB2.out.trans (hb3.mono HB2.out.size))
  have hl5 : SB.length = 512 := hl
  clear hb3 hl
  rw [hl5] at hc2 HVB ⊢
  have hc3 : ¬ (c2 : Int) < 1 := by omega
  have hc4 : (1 : Int) ≤ c2 := by omega
  have hc5 : ¬ c2 = 1 := by omega
  clear hl5
  go_wp2_with fail
  refine (superChoose_calls sget HU13.out HVB.out).mono ?_
  rintro e w4 ⟨rfl, hb4⟩
  rw [HC2.out]
  have HB4 := Lib.hid (HB3.out.trans (hb4.mono HB3.out.size))
  clear hb4
  go_wp2_with fail
  go_ret
  exact ⟨rfl, HB4.out⟩

/-- A superblock lies in the box B from the world W1 on. -/
structure BoxK (W1 : World) (B : Nat) (x : DSuper) (A : Option Addr) (c : Nat) : Prop where
  row : ∀ W, Below W1.heap.size W1 W → W.heap[B]? = some (.cells #[.int .i64 x.epoch, .int .i64 x.gen, .int .i64 x.log, .int .i64 x.pages, .int .i64 x.head, .int .i64 x.seq, .int .i64 x.long, .slice A x.dir.length c] 114 (0, 0))
  val : ∀ W, Below W1.heap.size W1 W → rSuper.val (fun _ => True) W (.agg #[.int .i64 x.epoch, .int .i64 x.gen, .int .i64 x.log, .int .i64 x.pages, .int .i64 x.head, .int .i64 x.seq, .int .i64 x.long, .slice A x.dir.length c]) x
theorem BoxK.made {Q : Nat → Prop} {w : World} {x : DSuper} {A : Option Addr} {c : Nat} (h : rSuper.val Q w (.agg #[.int .i64 x.epoch, .int .i64 x.gen, .int .i64 x.log, .int .i64 x.pages, .int .i64 x.head, .int .i64 x.seq, .int .i64 x.long, .slice A x.dir.length c]) x) : BoxK (w.alloc (.cells #[.int .i64 x.epoch, .int .i64 x.gen, .int .i64 x.log, .int .i64 x.pages, .int .i64 x.head, .int .i64 x.seq, .int .i64 x.long, .slice A x.dir.length c] 114)) w.heap.size x A c :=
  ⟨fun W hW => (hW.block _ (by simp)).trans (heap_alloc_new _ _), fun W hW => Rep.val_below (B := w.heap.size) (Rep.val_mono (fun _ _ h => trivial) h) (((Below.refl _ _).alloc (Nat.le_refl _) _).trans (hW.mono (by simp))) (fun _ _ h => h.lt)⟩
theorem BoxK.later {W1 W2 : World} {B : Nat} {x : DSuper} {A : Option Addr} {c : Nat} (h : BoxK W1 B x A c) (hb : Below W1.heap.size W1 W2) : BoxK W2 B x A c :=
  ⟨fun W hW => h.row W (hb.trans (hW.mono hb.size)), fun W hW => h.val W (hb.trans (hW.mono hb.size))⟩
theorem stepV {α : Type} {r : Rep α} {Q : Nat → Prop} {w w' : World} {v : Value} {x : α} (h : r.val Q w v x) (hb : Below w.heap.size w w') : r.val (fun _ => True) w' v x :=
  Rep.val_below (Rep.val_mono (fun _ _ _ => trivial) h) hb (fun _ _ h => h.lt)
theorem boolS (r : Bool) : (r != r) = false := by cases r <;> rfl
end Go.Proofs.Ythjjnlilpklacaa
