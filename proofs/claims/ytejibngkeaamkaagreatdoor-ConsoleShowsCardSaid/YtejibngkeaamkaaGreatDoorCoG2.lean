/- Texts on which the proofs stand: CFind, Dec, RNum, CNum, CReader, Build, RHex, RUnhex, HexB, RuneHi, Unhex, CReader2, ConBack, CCommand, CCrash, CWhom. No condition is laid on any input. -/
import Derived.Test.YtejibngkeaamkaaGreatDoorCoG1
import Derived.Lib.Builder
import Derived.Lib.OthersKept
import Derived.Lib.TrimU
import Derived.Laws.RangeString
import Derived.Laws.RangeAny
namespace Go.Proofs.YtejibngkeaamkaaGreatDoor
open Go.RowKit

set_option maxRecDepth 100000 in
/-- comp.Find's predicate -/
theorem comp1_calls {w : World} {x : DComp} {B : Nat} {s : List UInt8} (h0 : w.cell? ⟨B, 0, none⟩ = some (.string ⟨s.toArray⟩)) (hB : B < w.heap.size) :
    Calls Tryz.prog 105 #[.agg #[.string ⟨x.name.toArray⟩, .int .i64 x.size], .pointer (some ⟨B, 0, none⟩)] w fun en w' => en = .returned (.bool (decide (x.name = s))) ∧ Below w.heap.size w w' := by
  obtain ⟨W1, hW1⟩ : ∃ W1, w.alloc (.cells #[.string ⟨x.name.toArray⟩, .int .i64 x.size] 57) = W1 := ⟨_, rfl⟩
  have hb : Below w.heap.size w W1 := by rw [← hW1]; exact (Below.refl _ _).alloc (Nat.le_refl _) _
  have hn : W1.heap[w.heap.size]? = some (.cells #[.string ⟨x.name.toArray⟩, .int .i64 x.size] 57 (0, 0)) := by rw [← hW1]; exact heap_alloc_new _ _
  have e0 := cell_row hn 0
  have g0 := (hb.cell (p := ⟨B, 0, none⟩) hB).trans h0
  have HB := Lib.hid hb
  clear hb hn h0
  by_cases hq : x.name = s
  · have HQ := Lib.hid hq
    replace hq : (x.name == s) = true := by simp [hq]
    go_enter Tryz.func105, Tryz.ntmps105
    go_wp2_with fail
    try rw [hW1]
    clear hW1
    try go_wp2_with fail
    go_ret
    exact ⟨by rw [decide_eq_true HQ.out]; rfl, HB.out⟩
  · have HQ := Lib.hid hq
    replace hq : (x.name == s) = false := by simpa using hq
    go_enter Tryz.func105, Tryz.ntmps105
    go_wp2_with fail
    try rw [hW1]
    clear hW1
    try go_wp2_with fail
    go_ret
    exact ⟨by rw [decide_eq_false HQ.out]; rfl, HB.out⟩

/-- The first place of a name; -1: there is none. -/
def placeN (l : List DComp) (s : List UInt8) : Int := match findC l s with
  | none => -1
  | some i => (i : Int)
theorem placeN_none {l : List DComp} {s : List UInt8} (h : ∀ e ∈ l, e.name ≠ s) : placeN l s = -1 := by
  unfold placeN findC
  rw [List.findIdx?_eq_none_iff.2 (fun e he => by simpa using h e he)]
theorem findC_some {l : List DComp} {s : List UInt8} {k : Nat} {e : DComp} (he : l[k]? = some e) (hid : e.name = s) (h : ∀ e ∈ l.take k, e.name ≠ s) : findC l s = some k := by
  obtain ⟨hk, rfl⟩ := List.getElem?_eq_some_iff.1 he
  unfold findC
  rw [List.findIdx?_eq_some_iff_getElem.2 ⟨hk, by simpa using hid, fun j hj => by
    have := h l[j] (List.mem_take_iff_getElem.2 ⟨j, by omega, rfl⟩)
    simpa using this⟩]
theorem placeN_some {l : List DComp} {s : List UInt8} {k : Nat} {e : DComp} (he : l[k]? = some e) (hid : e.name = s) (h : ∀ e ∈ l.take k, e.name ≠ s) : placeN l s = k := by
  unfold placeN
  rw [findC_some he hid h]
theorem nename_take_succ {l : List DComp} {s : List UInt8} {k : Nat} {e : DComp} (he : l[k]? = some e) (hid : ¬ e.name = s) (h : ∀ e ∈ l.take k, e.name ≠ s) : ∀ e ∈ l.take (k + 1), e.name ≠ s := by
  obtain ⟨hk, rfl⟩ := List.getElem?_eq_some_iff.1 he
  intro x hx
  rw [List.take_succ_eq_append_getElem hk, List.mem_append, List.mem_singleton] at hx
  rcases hx with hx | rfl
  · exact h x hx
  · exact hid

set_option maxHeartbeats 1000000 in
/-- slices.IndexFunc, as0 comp.Find uses it -/
theorem compIndex_calls {Q : Nat → Prop} {w : World} {A : Option Addr} {c : Nat} {l : List DComp} {B : Nat} {s : List UInt8} (hA : rComp.At Q w A l) (hc : l.length ≤ maxLen) (h0 : w.cell? ⟨B, 0, none⟩ = some (.string ⟨s.toArray⟩)) (hB : B < w.heap.size) :
    Calls Tryz.prog 104 #[.slice A l.length c, .func (.func 105) #[] #[.pointer (some ⟨B, 0, none⟩)]] w fun en w' => en = .returned (.int .i64 (placeN l s)) ∧ Below w.heap.size w w' := by
  unfold maxLen at hc
  have HA := Lib.hid hA
  have H0 := Lib.hid h0
  have HBB := Lib.hid hB
  clear hA h0 hB
  go_enter Tryz.func104, Tryz.ntmps104
  go_wp2_with fail
  go_loopw [8] (fun i wr => ∃ k : Nat, i = .int .i64 k ∧ k ≤ l.length ∧ Hid (∀ e ∈ l.take k, e.name ≠ s) ∧ Hid (Below w.heap.size w wr)) (fun i _ => l.length - (intOf i).toNat)
  case atStart => exact ⟨0, rfl, Nat.zero_le _, Lib.hid (by simp), Lib.hid (Below.refl _ _)⟩
  case round =>
    obtain ⟨k, rfl, hk, HN, HBW⟩ := hrel
    by_cases hlt : (k : Int) < l.length
    · obtain ⟨e, he⟩ : ∃ e, l[k]? = some e := ⟨_, List.getElem?_eq_getElem (by omega)⟩
      obtain ⟨b, off, rfl, hbc, e0, e1, _⟩ := rComp_at (HA.out.below HBW.out (fun _ _ h => h.lt)) he
      have HE := Lib.hid he
      clear he hbc
      go_wp2_with fail
      refine (comp1_calls (x := e) ((HBW.out.cell (p := ⟨B, 0, none⟩) HBB.out).trans H0.out) (Nat.lt_of_lt_of_le HBB.out HBW.out.size)).mono ?_
      rintro en w2 ⟨rfl, hb2⟩
      have HB2 := Lib.hid (HBW.out.trans (hb2.mono HBW.out.size))
      clear hb2 e0 e1
      by_cases hid : e.name = s
      · have HF := Lib.hid (placeN_some HE.out hid HN.out)
        rw [decide_eq_true hid]
        clear hid
        go_wp2_with fail
        go_ret
        exact ⟨by rw [HF.out]; rfl, HB2.out⟩
      · have HF := Lib.hid (nename_take_succ HE.out hid HN.out)
        rw [decide_eq_false hid]
        clear hid
        go_wp2_with fail
        exact ⟨⟨k + 1, by go_num, by omega, HF, HB2⟩, by simp [intOf]; omega⟩
    · obtain rfl : k = l.length := by omega
      rw [List.take_length] at HN
      have HF := Lib.hid (placeN_none HN.out)
      go_wp2_with fail
      go_ret
      exact ⟨by rw [HF.out]; rfl, HBW.out⟩

set_option maxRecDepth 100000 in
set_option maxHeartbeats 1000000 in
/-- comp.Find -/
theorem cfind_calls {Q : Nat → Prop} {w : World} {v : Value} {c : DConf} {s : List UInt8} (hx : rConf.val Q w v c) :
    Calls Tryz.prog 89 #[v, .string ⟨s.toArray⟩] w fun en w' => en = .returned (.tuple #[.int .i64 (((findC c.comps s).getD 0 : Nat) : Int), .bool (findC c.comps s).isSome]) ∧ Below w.heap.size w w' := by
  obtain ⟨A, cap, rfl, f0, f1, f2, f3, hc1, hc2, hA⟩ := rConf_val hx
  obtain ⟨W1, hW1⟩ : ∃ W1, (w.alloc (.cells #[.int .i64 c.log, .int .i64 c.pages, .int .i64 c.entities, .int .i64 c.gens, .slice A c.comps.length cap] 24)).alloc (.cells #[.string ⟨s.toArray⟩] 9) = W1 := ⟨_, rfl⟩
  have hb : Below w.heap.size w W1 := by rw [← hW1]; exact ((Below.refl _ _).alloc (Nat.le_refl _) _).alloc (by simp) _
  have hn : W1.heap[w.heap.size + 1]? = some (.cells #[.string ⟨s.toArray⟩] 9 (0, 0)) := by rw [← hW1]; have := heap_alloc_new (w.alloc (.cells #[.int .i64 c.log, .int .i64 c.pages, .int .i64 c.entities, .int .i64 c.gens, .slice A c.comps.length cap] 24)) (.cells #[.string ⟨s.toArray⟩] 9); simpa using this
  have hn4 : W1.cell? ⟨w.heap.size, 4, none⟩ = some (.slice A c.comps.length cap) := by rw [← hW1]; simp
  have hsz : W1.heap.size = w.heap.size + 2 := by rw [← hW1]; simp
  have e0 := cell_row hn 0
  have HB := Lib.hid hb
  have HA := Lib.hid (hA.below hb fun _ _ h => h.lt)
  have HC := Lib.hid (show c.comps.length ≤ maxLen by omega)
  have HI := Lib.hid (compIndex_calls HA.out HC.out (c := cap) (s := s) (B := w.heap.size + 1) (show W1.cell? ⟨w.heap.size + 1, 0, none⟩ = some (.string ⟨s.toArray⟩) from e0) (by omega))
  clear hb hn hx hA hc1 hc2 e0
  cases hf : findC c.comps s with
  | none =>
    have hp : placeN c.comps s = -1 := by unfold placeN; rw [hf]
    rw [hp] at HI
    clear hf hp
    go_enter Tryz.func89, Tryz.ntmps89
    go_wp2_with fail
    try rw [hW1]
    clear hW1
    try go_wp2_with fail
    refine (HI.out).mono ?_
    rintro e w2 ⟨rfl, hb2⟩
    go_wp2_with fail
    go_ret2
    exact ⟨rfl, HB.out.trans (hb2.mono HB.out.size)⟩
  | some k =>
    have hp : placeN c.comps s = k := by unfold placeN; rw [hf]
    have hk : (k : Int) ≤ 9223372036854775807 := by have := (List.findIdx?_eq_some_iff_getElem.1 hf).1; have := HC.out; unfold maxLen at this; omega
    rw [hp] at HI
    clear hf hp
    have hm : max (k : Int) 0 = k := by omega
    go_enter Tryz.func89, Tryz.ntmps89
    go_wp2_with fail
    try rw [hW1]
    clear hW1
    try go_wp2_with fail
    refine (HI.out).mono ?_
    rintro e w2 ⟨rfl, hb2⟩
    go_wp2_with fail
    all_goals (go_ret2; first | exact ⟨rfl, HB.out.trans (hb2.mono HB.out.size)⟩ | (exfalso; omega) | exact ⟨by rw [show k = 0 by omega]; rfl, HB.out.trans (hb2.mono HB.out.size)⟩)

/-- What ref07.Find answers, in one way of saying. -/
theorem rfind_is {l : List DComp} {s : List UInt8} {w : World} {e : Ending} {w' : World} (h : FindRes l s w e w') : e = .returned (.tuple #[.int .i64 (((findC l s).getD 0 : Nat) : Int), .bool (findC l s).isSome]) ∧ Below w.heap.size w w' ∨ (∃ i : Nat, e = .returned (.tuple #[.int .i64 i, .bool false]) ∧ findC l s = none ∧ Below w.heap.size w w') := by
  obtain ⟨hb, i, b, rfl, ⟨rfl, h1, h2, h3⟩ | ⟨rfl, h1⟩⟩ := h
  · left
    have := findC_some (List.getElem?_eq_getElem h2) h3 (fun e he => by simpa using List.all_eq_true.1 h1 e he)
    rw [this]
    exact ⟨rfl, hb⟩
  · right
    refine ⟨i, rfl, ?_, hb⟩
    unfold findC
    exact List.findIdx?_eq_none_iff.2 (fun e he => by simpa using List.all_eq_true.1 h1 e he)
end Go.Proofs.YtejibngkeaamkaaGreatDoor
namespace Go.Proofs.YtejibngkeaamkaaGreatDoor
open Go.RowKit Go.Lib

/-- A text behind another. -/
theorem str_eq {b : ByteArray} {l : List UInt8} (h : b.data.toList = l) : b = ⟨l.toArray⟩ := by
  apply ByteArray.ext
  apply Array.ext'
  simp [h]
def dec10 : ByteArray := ⟨#[48, 49, 50, 51, 52, 53, 54, 55, 56, 57]⟩
theorem dec10_piece (k : Nat) (h : k < 10) : (dec10.extract k (k + 1)).data.toList = [UInt8.ofNat (48 + k)] := by
  have : ∀ k : Fin 10, (dec10.extract k.val (k.val + 1)).data.toList = [UInt8.ofNat (48 + k.val)] := by decide +kernel
  exact this ⟨k, h⟩

set_option maxRecDepth 10000 in
set_option maxHeartbeats 1000000 in
theorem dec_loop (n : Int) (N : Nat) (w : World) (hN : (N : Int) = n.natAbs) (hN1 : N ≤ 9223372036854775808) (hn : In64 n) :
    Calls Tryz.prog 28 #[.int .i64 n] w fun e w' => e = .returned (.string ⟨(itoa n).toArray⟩) ∧ w' = w := by
  obtain ⟨hn0, hn1⟩ := hn
  have HL := Lib.hid (show (decDigits N).length ≤ 20 by rw [decDigits_length]; exact nDigits_le20 N (by omega))
  by_cases hneg : n < 0
  · have hw1 : IntKind.u64.wrap (-IntKind.u64.wrap n) = (N : Int) := by simp [IntKind.wrap, IntKind.signed, IntKind.bits]; omega
    have HI := Lib.hid (show itoa n = 45 :: decDigits N by unfold itoa; rw [if_pos hneg]; congr 2; omega)
    clear hN
    go_enter Tryz.func28, Tryz.ntmps28
    go_wp2_with fail
    go_loopw [3, 4, 5] (fun b u k wr => ∃ (m : Nat) (x : ByteArray), u = .int .u64 m ∧ b = .string x ∧ m ≤ N ∧ x.size ≤ 20 ∧ Hid (decDigits N = decDigits m ++ x.data.toList) ∧ wr = w)
      (fun _ u _ _ => (RowKit.intOf u).toNat)
    case atStart => exact ⟨N, ⟨#[]⟩, by first | rfl | rw [hw1], rfl, by omega, by decide, by simp [Hid], rfl⟩
    case round =>
      obtain ⟨m, x, rfl, rfl, hm, hx, hd, rfl⟩ := hrel
      by_cases h9 : (9 : Int) < m
      · have e0 : (m : Int) % 10 = ((m % 10 : Nat) : Int) := by omega
        have hk : m % 10 < 10 := by omega
        have E := Lib.hid (show decDigits N = decDigits (m / 10) ++ (dec10.extract (m % 10) (m % 10 + 1) ++ x).data.toList by
          rw [hd.out, ByteArray.data_append, Array.toList_append, dec10_piece _ hk, decDigits, dif_neg (by omega), List.append_assoc])
        have S := Lib.hid (show (dec10.extract (m % 10) (m % 10 + 1) ++ x).size ≤ 20 by
          have h1 := HL.out
          rw [E.out, List.length_append] at h1
          have h3 : (dec10.extract (m % 10) (m % 10 + 1) ++ x).data.toList.length = (dec10.extract (m % 10) (m % 10 + 1) ++ x).size := by rw [Array.length_toList]; rfl
          omega)
        have HD := Lib.hid (show (m : Int) / 10 = ((m / 10 : Nat) : Int) by omega)
        generalize hkk : m % 10 = k at *
        clear hd
        go_wp2_with fail
        exact ⟨⟨m / 10, _, by rw [HD.out], rfl, by omega, S.out, E, trivial⟩, by simp only [RowKit.intOf]; omega⟩
      · have E := Lib.hid (show (dec10.extract m (m + 1) ++ x).data.toList = decDigits N by
          rw [hd.out, ByteArray.data_append, Array.toList_append, dec10_piece m (by omega), decDigits_one (by omega)])
        have S := Lib.hid (show (dec10.extract m (m + 1) ++ x).size ≤ 20 by
          have h1 := HL.out
          rw [← E.out, Array.length_toList] at h1
          exact h1)
        clear hd
        go_wp2_with fail
        go_ret
        have EE : (⟨#[45]⟩ ++ (dec10.extract m (m + 1) ++ x) : ByteArray) = ⟨(itoa n).toArray⟩ := str_eq (by
          rw [HI.out, ByteArray.data_append, Array.toList_append]
          exact congrArg (45 :: ·) E.out)
        exact ⟨by rw [← EE]; rfl, rfl⟩
  · have hw1 : IntKind.u64.wrap n = (N : Int) := by simp [IntKind.wrap, IntKind.signed, IntKind.bits]; omega
    have HI := Lib.hid (show itoa n = decDigits N by unfold itoa; rw [if_neg hneg]; congr 1; omega)
    clear hN
    go_enter Tryz.func28, Tryz.ntmps28
    go_wp2_with fail
    go_loopw [3, 4, 5] (fun b u k wr => ∃ (m : Nat) (x : ByteArray), u = .int .u64 m ∧ b = .string x ∧ m ≤ N ∧ x.size ≤ 20 ∧ Hid (decDigits N = decDigits m ++ x.data.toList) ∧ wr = w)
      (fun _ u _ _ => (RowKit.intOf u).toNat)
    case atStart => exact ⟨N, ⟨#[]⟩, by first | rfl | rw [hw1], rfl, by omega, by decide, by simp [Hid], rfl⟩
    case round =>
      obtain ⟨m, x, rfl, rfl, hm, hx, hd, rfl⟩ := hrel
      by_cases h9 : (9 : Int) < m
      · have e0 : (m : Int) % 10 = ((m % 10 : Nat) : Int) := by omega
        have hk : m % 10 < 10 := by omega
        have E := Lib.hid (show decDigits N = decDigits (m / 10) ++ (dec10.extract (m % 10) (m % 10 + 1) ++ x).data.toList by
          rw [hd.out, ByteArray.data_append, Array.toList_append, dec10_piece _ hk, decDigits, dif_neg (by omega), List.append_assoc])
        have S := Lib.hid (show (dec10.extract (m % 10) (m % 10 + 1) ++ x).size ≤ 20 by
          have h1 := HL.out
          rw [E.out, List.length_append] at h1
          have h3 : (dec10.extract (m % 10) (m % 10 + 1) ++ x).data.toList.length = (dec10.extract (m % 10) (m % 10 + 1) ++ x).size := by rw [Array.length_toList]; rfl
          omega)
        have HD := Lib.hid (show (m : Int) / 10 = ((m / 10 : Nat) : Int) by omega)
        generalize hkk : m % 10 = k at *
        clear hd
        go_wp2_with fail
        exact ⟨⟨m / 10, _, by rw [HD.out], rfl, by omega, S.out, E, trivial⟩, by simp only [RowKit.intOf]; omega⟩
      · have E := Lib.hid (show (dec10.extract m (m + 1) ++ x).data.toList = decDigits N by
          rw [hd.out, ByteArray.data_append, Array.toList_append, dec10_piece m (by omega), decDigits_one (by omega)])
        have S := Lib.hid (show (dec10.extract m (m + 1) ++ x).size ≤ 20 by
          have h1 := HL.out
          rw [← E.out, Array.length_toList] at h1
          exact h1)
        clear hd
        go_wp2_with fail
        go_ret
        have EE : (dec10.extract m (m + 1) ++ x : ByteArray) = ⟨(itoa n).toArray⟩ := str_eq (by rw [HI.out]; exact E.out)
        exact ⟨by rw [← EE]; rfl, rfl⟩

/-- ref39.Dec -/
theorem dec_calls {n : Int} (hn : In64 n) (w : World) : Calls Tryz.prog 28 #[.int .i64 n] w fun e w' => e = .returned (.string ⟨(itoa n).toArray⟩) ∧ w' = w :=
  dec_loop n n.natAbs w rfl (by obtain ⟨h0, h1⟩ := hn; omega) hn
end Go.Proofs.YtejibngkeaamkaaGreatDoor
namespace Go.Proofs.YtejibngkeaamkaaGreatDoor
open Go.RowKit Go.Lib

/-- What a search for a number answers. -/
def numOut (o : Option Int) : Value := .tuple #[.int .i64 (o.getD 0), .bool o.isSome]
end Go.Proofs.YtejibngkeaamkaaGreatDoor
namespace Go.Proofs.YtejibngkeaamkaaGreatDoor
open Go.RowKit

set_option maxRecDepth 10000 in
set_option maxHeartbeats 1000000 in
/-- console.Num -/
theorem num_calls (s : List UInt8) (hs : s.length ≤ 1000000000) {w : World} (ht : Tabs w) :
    Calls Tryz.prog 16 #[.string ⟨s.toArray⟩] w fun e w' => e = .returned (numOut (numS s)) ∧ Below w.heap.size w w' := by
  have hs' : (s.length : Int) ≤ 9223372036854775807 := by omega
  go_enter Tryz.func16, Tryz.ntmps16
  go_wp2_with fail
  refine (atoi_calls s hs ht).mono ?_
  rintro e w1 ⟨hb, v, er, rfl, hor⟩
  have HT := Lib.hid (ht.call hb)
  rcases hor with ⟨ha, rfl⟩ | ⟨ha, t, p, rfl⟩
  · have hI : In64 v := Lib.atoiAll_bounds ha
    by_cases hq : Lib.itoa v = s
    · have HN := Lib.hid (show numS s = some v by unfold numS; rw [ha]; simp [hq])
      replace hq : (Lib.itoa v == s) = true := by simp [hq]
      clear ha
      go_wp2_with fail
      refine (itoa_calls hI HT.out).mono ?_
      rintro e w2 ⟨rfl, hb2⟩
      go_wp2_with fail
      go_ret2
      exact ⟨by rw [HN.out]; rfl, hb.trans (hb2.mono hb.size)⟩
    · have HN := Lib.hid (show numS s = none by unfold numS; rw [ha]; simp [hq])
      replace hq : (Lib.itoa v == s) = false := by simp [hq]
      clear ha
      go_wp2_with fail
      refine (itoa_calls hI HT.out).mono ?_
      rintro e w2 ⟨rfl, hb2⟩
      go_wp2_with fail
      go_ret2
      exact ⟨by rw [HN.out]; rfl, hb.trans (hb2.mono hb.size)⟩
  · have HN := Lib.hid (show numS s = none by unfold numS; split <;> first | (rename_i u hu; exact absurd hu (ha u)) | rfl)
    clear ha
    go_wp2_with fail
    go_ret2
    exact ⟨by rw [HN.out]; rfl, hb⟩
end Go.Proofs.YtejibngkeaamkaaGreatDoor
namespace Go.Proofs.YtejibngkeaamkaaGreatDoor
open Go.RowKit

def rdrRow (c : DConf) (A : Option Addr) (cap : Nat) (A1 : Option Addr) (c1 n : Nat) (bad : Bool) : Array Value :=
  #[.int .i64 c.log, .int .i64 c.pages, .int .i64 c.entities, .int .i64 c.gens, .slice A c.comps.length cap, .slice A1 n c1, .bool bad]
/-- A reader in a block. -/
def Rdr (Q : Nat → Prop) (B : Nat) (W : World) (c : DConf) (r : Wds) : Prop := (∀ b, Q b → b ≠ B) ∧ ∃ A cap A1 c1,
  W.heap[B]? = some (.cells (rdrRow c A cap A1 c1 r.l.length r.bad) 69 (0, 0)) ∧
  rConf.val Q W (.agg #[.int .i64 c.log, .int .i64 c.pages, .int .i64 c.entities, .int .i64 c.gens, .slice A c.comps.length cap]) c ∧
  Rep.text.Sl Q W A1 c1 r.l ∧ ∀ x ∈ r.l, x.length ≤ 1000000
section
variable {Q Q' : Nat → Prop} {B : Nat} {w W W' : World} {c : DConf} {r : Wds}
theorem Rdr.lt (h : Rdr Q B W c r) : B < W.heap.size := by
  obtain ⟨_, A, cap, A1, c1, h1, _⟩ := h
  exact (Array.getElem?_eq_some_iff.1 h1).1
theorem Rdr.keep (h : Rdr Q B W c r) (hm : W'.heap[B]? = W.heap[B]?) (hk : ∀ b, Q b → b < W.heap.size → Q' b ∧ W'.heap[b]? = W.heap[b]?) (hq : ∀ b, Q' b → b ≠ B) : Rdr Q' B W' c r := by
  obtain ⟨_, A, cap, A1, c1, h1, h2, h3, h4⟩ := h
  exact ⟨hq, A, cap, A1, c1, hm.trans h1, Rep.val_keep (fun b hb hl => hk b hb hl.lt) h2, h3.keep (fun b hb hl => hk b hb hl.lt), h4⟩
theorem Rdr.later (h : Rdr Q B W c r) (hb : Below W.heap.size W W') : Rdr Q B W' c r := h.keep (hb.block B h.lt) (fun b hq hl => ⟨hq, hb.block b hl⟩) h.1
theorem Rdr.only {F : Nat → Prop} (h : Rdr Q B W c r) (ho : Only F W W') (hB : ¬ F B) (hF : ∀ b, Q b → ¬ F b) : Rdr Q B W' c r := h.keep (ho.block B h.lt hB) (fun b hq hl => ⟨hq, ho.block b hl (hF b hq)⟩) h.1
end
theorem text_at {Q : Nat → Prop} {w : World} {A : Option Addr} {xs : List (List UInt8)} (h : Rep.text.At Q w A xs) {i : Nat} {x : List UInt8} (hx : xs[i]? = some x) :
    ∃ (b off : Nat), A = some ⟨b, off, none⟩ ∧ IsC w b ∧ w.cell? ⟨b, off + i, none⟩ = some (.string ⟨x.toArray⟩) ∧ x.length ≤ maxLen := by
  obtain ⟨b, off, es, h1, _, h2, h3, h4⟩ := h.get hx
  obtain ⟨e, hl⟩ := h3
  subst e
  exact ⟨b, off, h1, h2, by have := h4 0 _ rfl; rwa [Nat.add_zero, show i * Rep.text.size = i from Nat.mul_one i] at this, hl⟩

set_option maxRecDepth 100000 in
set_option maxHeartbeats 2000000 in
/-- reader.word -/
theorem word_calls {Q : Nat → Prop} {B : Nat} {w : World} {c : DConf} {r : Wds} (h : Rdr Q B w c r) :
    Calls Tryz.prog 51 #[.pointer (some ⟨B, 0, none⟩)] w fun e W => e = .returned (.string ⟨r.word.1.toArray⟩) ∧ Rdr Q B W c r.word.2 ∧ Only (fun b => b = B) w W := by
  have HR := Lib.hid h
  have HL := Lib.hid h.lt
  obtain ⟨hq, A, cap, A1, c1, h1, h2, h3, h4⟩ := h
  have HQ := Lib.hid hq
  have HV := Lib.hid h2
  have HS := Lib.hid h3
  have H4 := Lib.hid h4
  have q5 := cell_row h1 5
  have q6 := cell_row h1 6
  have z5 := frozen_row h1 5
  have z6 := frozen_row h1 6
  have H1 := Lib.hid h1
  have hm1 := h3.1
  have hm2 := h3.2.1
  unfold maxLen at hm2
  clear hq h1 h2 h3 h4
  unfold rdrRow at q5 q6
  obtain ⟨l, bad⟩ := r
  cases l with
  | nil =>
    dsimp only at q5 q6
    go_enter Tryz.func51, Tryz.ntmps51
    go_wp2_with fail
    refine nm_post (fun W hnm => ?_)
    have R := Lib.hid (show W.heap[B]? = some (.cells (rdrRow c A cap A1 c1 0 true) 69 (0, 0)) by rw [hnm]; exact heap_setRow H1.out)
    have O := Lib.hid (show Only (fun b => b = B) w W by rw [hnm]; exact (Only.refl _ _).put rfl)
    clear hnm
    go_ret
    exact ⟨rfl, ⟨HQ.out, A, cap, A1, c1, R.out, Rep.val_keep (fun b hb hl => ⟨hb, O.out.block b hl.lt (HQ.out b hb)⟩) HV.out, HS.out.keep (fun b hb hl => ⟨hb, O.out.block b hl.lt (HQ.out b hb)⟩), fun _ hx => by cases hx⟩, O.out⟩
  | cons x l =>
    obtain ⟨b, off, rfl, hb, ec, hx⟩ := text_at HS.out.2.2 (i := 0) (x := x) rfl
    rw [Nat.add_zero] at ec
    have HD := Lib.hid (show Rep.text.At Q w (some ⟨b, off + 1, none⟩) l from HS.out.2.2.drop (n := 1) (by simp))
    simp only [List.length_cons] at q5 hm1
    have H1' := Lib.hid H1.out
    simp only [List.length_cons] at H1'
    have hz : ((l.length + 1 : Nat) : Int) = (l.length : Int) + 1 := by omega
    have hz2 : (((l.length : Int) + 1) == 0) = false := by rw [beq_eq_false_iff_ne]; omega
    dsimp only at q6
    have HB := Lib.hid hb
    clear hb hx
    have hn4 : ∀ y ∈ l, y.length ≤ 1000000 := fun y hy => H4.out y (by simp [hy])
    have H5 := Lib.hid hn4
    clear hn4
    generalize hlen : l.length = n at *
    have HN := Lib.hid hlen
    clear hlen
    by_cases hcap : c1 = 1
    · subst hcap
      go_enter Tryz.func51, Tryz.ntmps51
      go_wp2_with fail
      refine nm_post (fun W hnm => ?_)
      have hn0 : n = 0 := by omega
      subst hn0
      obtain rfl : l = [] := List.length_eq_zero_iff.1 HN.out
      have R := Lib.hid (show W.heap[B]? = some (.cells (rdrRow c A cap (some ⟨b, off, none⟩) 0 0 bad) 69 (0, 0)) by rw [hnm]; exact heap_setRow H1'.out)
      have O := Lib.hid (show Only (fun b => b = B) w W by rw [hnm]; exact (Only.refl _ _).put rfl)
      clear hnm
      go_ret
      exact ⟨rfl, ⟨HQ.out, A, cap, _, 0, R.out, Rep.val_keep (fun b hb hl => ⟨hb, O.out.block b hl.lt (HQ.out b hb)⟩) HV.out, ⟨by simp [Wds.word], by simp [maxLen], [], rfl, fun h => absurd h (by simp [Wds.word])⟩, H5.out⟩, O.out⟩
    · go_enter Tryz.func51, Tryz.ntmps51
      go_wp2_with fail
      refine nm_post (fun W hnm => ?_)
      have R := Lib.hid (show W.heap[B]? = some (.cells (rdrRow c A cap (some ⟨b, off + 1, none⟩) (c1 - 1) n bad) 69 (0, 0)) by rw [hnm]; exact heap_setRow H1'.out)
      have O := Lib.hid (show Only (fun b => b = B) w W by rw [hnm]; exact (Only.refl _ _).put rfl)
      clear hnm
      go_ret
      refine ⟨rfl, ⟨HQ.out, A, cap, some ⟨b, off + 1, none⟩, c1 - 1, ?_, Rep.val_keep (fun b hb hl => ⟨hb, O.out.block b hl.lt (HQ.out b hb)⟩) HV.out, ⟨?_, ?_, HD.out.keep (fun b hb hl => ⟨hb, O.out.block b hl.lt (HQ.out b hb)⟩)⟩, H5.out⟩, O.out⟩
      · rw [R.out, ← HN.out]; rfl
      · show l.length ≤ c1 - 1
        rw [HN.out]; omega
      · unfold maxLen; omega


section
variable {Q : Nat → Prop} {B : Nat} {w W W' : World} {c : DConf} {r : Wds}
theorem Rdr.c6 (h : Rdr Q B W c r) : W.cell? ⟨B, 6, none⟩ = some (.bool r.bad) := by obtain ⟨_, A, cap, A1, c1, h1, _⟩ := h; exact cell_row h1 6
theorem Rdr.f6 (h : Rdr Q B W c r) : W.frozen? ⟨B, 6, none⟩ = false := by obtain ⟨_, A, cap, A1, c1, h1, _⟩ := h; exact frozen_row h1 6
theorem Rdr.put6 (h : Rdr Q B W c r) (b : Bool) : Rdr Q B (W.setCell ⟨B, 6, none⟩ (.bool b)) c ⟨r.l, b⟩ := by
  obtain ⟨hq, A, cap, A1, c1, h1, h2, h3, h4⟩ := h
  have hk : ∀ b', Q b' → (W.setCell ⟨B, 6, none⟩ (.bool b)).heap[b']? = W.heap[b']? := fun b' hb => Below.heap_setCell _ _ _ _ (hq b' hb)
  exact ⟨hq, A, cap, A1, c1, heap_setRow h1, Rep.val_keep (fun b hb _ => ⟨hb, hk b hb⟩) h2, h3.keep (fun b hb _ => ⟨hb, hk b hb⟩), h4⟩
theorem Rdr.conf (h : Rdr Q B W c r) : ∃ A cap, W.cell? ⟨B, 0, none⟩ = some (.int .i64 c.log) ∧ W.cell? ⟨B, 1, none⟩ = some (.int .i64 c.pages) ∧ W.cell? ⟨B, 2, none⟩ = some (.int .i64 c.entities) ∧ W.cell? ⟨B, 3, none⟩ = some (.int .i64 c.gens) ∧ W.cell? ⟨B, 4, none⟩ = some (.slice A c.comps.length cap) ∧
    rConf.val Q W (.agg #[.int .i64 c.log, .int .i64 c.pages, .int .i64 c.entities, .int .i64 c.gens, .slice A c.comps.length cap]) c := by
  obtain ⟨_, A, cap, A1, c1, h1, h2, _⟩ := h
  exact ⟨A, cap, cell_row h1 0, cell_row h1 1, cell_row h1 2, cell_row h1 3, cell_row h1 4, h2⟩
theorem Rdr.word_le (h : Rdr Q B W c r) : r.word.1.length ≤ 1000000 := by
  obtain ⟨_, A, cap, A1, c1, _, _, _, h4⟩ := h
  unfold Wds.word
  split
  · simp
  · rename_i x l hl; exact h4 x (by rw [hl]; simp)
end
theorem Tabs.only {F : Nat → Prop} {w W : World} (h : Tabs w) (ho : Only F w W) (hF : ∀ b, F b → 8 ≤ b) : Tabs W := h.same ho.size fun b hb => ho.block b (Nat.lt_of_lt_of_le hb h.big) fun hf => by have := hF b hf; omega
set_option maxRecDepth 100000 in
set_option maxHeartbeats 2000000 in
/-- reader.num -/
theorem cnumr_calls {Q : Nat → Prop} {B : Nat} {w : World} {c : DConf} {r : Wds} (h : Rdr Q B w c r) (s : List UInt8) (hs : s.length ≤ 1000000000) (ht : Tabs w) :
    Calls Tryz.prog 52 #[.pointer (some ⟨B, 0, none⟩), .string ⟨s.toArray⟩] w fun e W => e = .returned (.int .i64 (r.num s).1) ∧ Rdr Q B W c (r.num s).2 ∧ Only (fun b => b = B) w W := by
  have HT := Lib.hid ht
  have HR := Lib.hid h
  have hnum : r.num s = ((numS s).getD 0, ⟨r.l, r.bad || (numS s).isNone⟩) := rfl
  rw [hnum]
  obtain ⟨o, ho⟩ : ∃ o, numS s = o := ⟨_, rfl⟩
  rw [ho]
  have HO := Lib.hid ho
  clear h ht ho hnum
  go_enter Tryz.func52, Tryz.ntmps52
  go_wp2_with fail
  refine (num_calls s hs HT.out).mono ?_
  rintro e w1 ⟨rfl, hb⟩
  rw [HO.out]
  have HR1 := Lib.hid (HR.out.later hb)
  have HB := Lib.hid hb
  have q6 := HR1.out.c6
  have z6 := HR1.out.f6
  clear hb
  unfold numOut
  cases hbad : r.bad <;> cases o
  all_goals
    rw [hbad] at q6
    go_wp2_with fail
    refine nm_post (fun W hnm => ?_)
    have R := Lib.hid (hnm ▸ HR1.out.put6 _)
    have O := Lib.hid (show Only (fun b => b = B) w W by rw [hnm]; exact (Only.of_below HB.out : Only (fun b => b = B) w w1).put rfl)
    clear hnm
    go_ret
    exact ⟨rfl, by rw [hbad]; exact R.out, O.out⟩

/-- A command in a block, its data whatever value. -/
def cmdRow (x : DCmd) (D : Value) : Array Value := #[.int .i64 x.kind, .bool x.loc, .int .i64 x.id.index, .int .i64 x.id.gen, .int .i64 x.comp, D]
def CmdIs (W : World) (X : Nat) (x : DCmd) (D : Value) : Prop := W.heap[X]? = some (.cells (cmdRow x D) 29 (0, 0))
theorem cut_len (s p : List UInt8) : (Lib.cut s p).1.length ≤ s.length ∧ (Lib.cut s p).2.1.length ≤ s.length := by
  unfold Lib.cut
  split
  · simp; omega
  · simp
theorem prefix_is (s : List UInt8) (c : UInt8) : Lib.hasPrefix s [c] = [c].isPrefixOf s := rfl
theorem trim_is {s : List UInt8} {c : UInt8} (h : [c].isPrefixOf s = true) : Lib.trimPrefix s [c] = s.drop 1 := by
  unfold Lib.trimPrefix
  rw [prefix_is, if_pos h]
  rfl

set_option maxRecDepth 100000 in
set_option maxHeartbeats 4000000 in
/-- reader.target -/
theorem ctarget_calls {Q : Nat → Prop} {B X : Nat} {w : World} {c : DConf} {r : Wds} {x : DCmd} {D : Value} (h : Rdr Q B w c r) (hx : CmdIs w X x D) (hXB : X ≠ B) (hQX : ∀ b, Q b → b ≠ X) (ht : Tabs w) (hB8 : 8 ≤ B) :
    Calls Tryz.prog 76 #[.pointer (some ⟨B, 0, none⟩), .pointer (some ⟨X, 0, none⟩)] w fun e W => e = .returned (.tuple #[]) ∧ Rdr Q B W c (r.target x).2 ∧ CmdIs W X (r.target x).1 D ∧ Only (fun b => b = B ∨ b = X) w W := by
  have HT := Lib.hid ht
  have HR := Lib.hid h
  have HX := Lib.hid hx
  have hwl := h.word_le
  have hwd := word_calls h
  have htg : r.target x = r.target x := rfl
  conv at htg => rhs; unfold Wds.target
  generalize r.word.1 = s at *
  generalize r.word.2 = r1 at *
  rw [htg]
  have HWD := Lib.hid hwd
  have HWL := Lib.hid hwl
  clear h ht hx hwd hwl htg
  cases hp : [36].isPrefixOf s with
  | true =>
    simp only [if_true]
    have HP := Lib.hid hp
    have HTR := Lib.hid (trim_is hp)
    have HLT := Lib.hid (show (s.drop 1).length ≤ 1000000 by have := HWL.out; simp; omega)
    generalize s.drop 1 = t at *
    clear hp
    go_enter Tryz.func76, Tryz.ntmps76
    go_wp2_with fail
    refine (HWD.out).mono ?_
    rintro e w1 ⟨rfl, h1, o1⟩
    have H1 := Lib.hid h1
    have O1 := Lib.hid o1
    have T1 := Lib.hid (HT.out.only o1 (by rintro b rfl; exact hB8))
    have X1 := Lib.hid (show CmdIs w1 X x D from row_only o1 HX.out (by exact hXB))
    clear h1 o1
    go_wp2_with fail
    refine (Tryz.strings_CutPrefix ⟨s.toArray⟩ ⟨#[36]⟩ w1).mono ?_
    rintro e w2 ⟨rfl, rfl⟩
    rw [show Lib.hasPrefix (ByteArray.mk s.toArray).data.toList (ByteArray.mk #[36]).data.toList = true from by simpa [prefix_is] using HP.out, show Lib.trimPrefix (ByteArray.mk s.toArray).data.toList (ByteArray.mk #[36]).data.toList = t by simpa using HTR.out]
    go_wp2_with fail
    refine (cnumr_calls H1.out t (by have := HLT.out; omega) T1.out).mono ?_
    rintro e w3 ⟨rfl, h3, o3⟩
    have H3 := Lib.hid h3
    have O3 := Lib.hid (O1.out.trans o3)
    have X3 := Lib.hid (show CmdIs _ X x D from row_only o3 X1.out (by exact hXB))
    clear h3 o3
    have c1 : World.cell? _ ⟨X, 1, none⟩ = some (.bool x.loc) := cell_row X3.out 1
    have c2 : World.cell? _ ⟨X, 2, none⟩ = some (.int .i64 x.id.index) := cell_row X3.out 2
    have f1 := frozen_row X3.out 1
    have f2 := frozen_row X3.out 2
    go_wp2_with fail
    refine nm_post (fun W hnm => ?_)
    have R := Lib.hid (show Rdr Q B W c (r1.num t).2 from H3.out.keep (by rw [hnm]; exact (Below.heap_setCell _ _ _ _ (Ne.symm hXB)).trans (Below.heap_setCell _ _ _ _ (Ne.symm hXB))) (fun b hb _ => ⟨hb, by rw [hnm]; exact (Below.heap_setCell _ _ _ _ (hQX b hb)).trans (Below.heap_setCell _ _ _ _ (hQX b hb))⟩) H3.out.1)
    have O := Lib.hid (show Only (fun b => b = B ∨ b = X) w W by rw [hnm]; exact ((O3.out.wid (fun b hb => .inl hb)).put (.inr rfl)).put (.inr rfl))
    have C := Lib.hid (show CmdIs W X { x with loc := true, id := ⟨(r1.num t).1, x.id.gen⟩ } D by rw [hnm]; exact heap_setRow (heap_setRow X3.out))
    clear hnm
    refine bodyPost_ret (results_none rfl _ _ _) rfl ?_
    exact ⟨rfl, R.out, C.out, O.out⟩
  | false =>
    simp only [Bool.false_eq_true, if_false]
    have HP := Lib.hid hp
    obtain ⟨q, hq⟩ : ∃ q, Lib.cut s [46] = q := ⟨_, rfl⟩
    have HQ := Lib.hid hq
    have HL := Lib.hid (cut_len s [46])
    rw [hq] at HL ⊢
    clear hp hq
    go_enter Tryz.func76, Tryz.ntmps76
    go_wp2_with fail
    refine (HWD.out).mono ?_
    rintro e w1 ⟨rfl, h1, o1⟩
    have H1 := Lib.hid h1
    have O1 := Lib.hid o1
    have T1 := Lib.hid (HT.out.only o1 (by rintro b rfl; exact hB8))
    have X1 := Lib.hid (show CmdIs w1 X x D from row_only o1 HX.out (by exact hXB))
    clear h1 o1
    go_wp2_with fail
    refine (Tryz.strings_CutPrefix ⟨s.toArray⟩ ⟨#[36]⟩ w1).mono ?_
    rintro e w2 ⟨rfl, rfl⟩
    rw [show Lib.hasPrefix (ByteArray.mk s.toArray).data.toList (ByteArray.mk #[36]).data.toList = false from by simpa [prefix_is] using HP.out]
    go_wp2_with fail
    obtain ⟨m, hm⟩ := T1.out.max
    refine (Tryz.strings_Cut ⟨s.toArray⟩ ⟨#[46]⟩ m _ (by have := HWL.out; simp [ByteArray.size]; omega) hm).mono ?_
    rintro e w3 ⟨rfl, n3, hw3⟩
    rw [show Lib.cut (ByteArray.mk s.toArray).data.toList (ByteArray.mk #[46]).data.toList = q by simpa using HQ.out]
    have b3 : Below w2.heap.size w2 w3 := by rw [hw3]; exact below_drewN (Below.refl _ _) n3
    have H3 := Lib.hid (H1.out.later b3)
    have O3 := Lib.hid (O1.out.trans (Only.of_below b3))
    have T3 := Lib.hid (T1.out.call b3)
    have X3 := Lib.hid (show CmdIs w3 X x D from row_call b3 X1.out)
    clear b3 hw3 hm
    go_wp2_with fail
    refine (cnumr_calls H3.out q.1 (by have := HWL.out; have := HL.out.1; omega) T3.out).mono ?_
    rintro e w4 ⟨rfl, h4, o4⟩
    have H4 := Lib.hid h4
    have O4 := Lib.hid (O3.out.trans o4)
    have X4 := Lib.hid (show CmdIs _ X x D from row_only o4 X3.out (by exact hXB))
    have T4 := Lib.hid (T3.out.only o4 (by rintro b rfl; exact hB8))
    clear h4 o4
    go_wp2_with fail
    refine (cnumr_calls H4.out q.2.1 (by have := HWL.out; have := HL.out.2; omega) T4.out).mono ?_
    rintro e w5 ⟨rfl, h5, o5⟩
    have H5 := Lib.hid h5
    have O5 := Lib.hid (O4.out.trans o5)
    have X5 := Lib.hid (show CmdIs _ X x D from row_only o5 X4.out (by exact hXB))
    clear h5 o5
    have c2 : World.cell? _ ⟨X, 2, none⟩ = some (.int .i64 x.id.index) := cell_row X5.out 2
    have c3 : World.cell? _ ⟨X, 3, none⟩ = some (.int .i64 x.id.gen) := cell_row X5.out 3
    have f2 := frozen_row X5.out 2
    have f3 := frozen_row X5.out 3
    go_wp2_with fail
    refine nm_post (fun W hnm => ?_)
    have R := Lib.hid (show Rdr Q B W c ((r1.num q.1).2.num q.2.1).2 from H5.out.keep (by rw [hnm]; exact (Below.heap_setCell _ _ _ _ (Ne.symm hXB)).trans (Below.heap_setCell _ _ _ _ (Ne.symm hXB))) (fun b hb _ => ⟨hb, by rw [hnm]; exact (Below.heap_setCell _ _ _ _ (hQX b hb)).trans (Below.heap_setCell _ _ _ _ (hQX b hb))⟩) H5.out.1)
    have O := Lib.hid (show Only (fun b => b = B ∨ b = X) w W by rw [hnm]; exact ((O5.out.wid (fun b hb => .inl hb)).put (.inr rfl)).put (.inr rfl))
    have C := Lib.hid (show CmdIs W X { x with id := ⟨(r1.num q.1).1, ((r1.num q.1).2.num q.2.1).1⟩ } D by rw [hnm]; exact heap_setRow (heap_setRow X5.out))
    clear hnm
    go_end0
    exact ⟨rfl, R.out, C.out, O.out⟩
end Go.Proofs.YtejibngkeaamkaaGreatDoor
namespace Go.Proofs.YtejibngkeaamkaaGreatDoor
open Go.RowKit

theorem infoB : ∃ j, Tryz.prog.info? 87 = some j ∧ j.size = 2 := by
  obtain ⟨j, hj⟩ : ∃ j, Tryz.prog.info? 87 = some j := Option.isSome_iff_exists.1 (by kernel_rfl)
  refine ⟨j, hj, ?_⟩
  have : (Tryz.prog.info? 87).map (·.size) = some 2 := by kernel_rfl
  rw [hj] at this
  exact Option.some.inj this
theorem liesB : liesAt Tryz.prog Tryz.prog.depth 87 (2 / Tryz.prog.cellsOf 87) 0 87 1 = true := by kernel_rfl

set_option maxHeartbeats 1000000 in
set_option maxRecDepth 100000 in
theorem copyCheck_used (b : Nat) (w : World) (h0 : w.cell? ⟨b, 0, none⟩ = some (.pointer (some ⟨b, 0, none⟩))) :
    Calls Tryz.prog 67 #[.pointer (some ⟨b, 0, none⟩)] w fun e w' => e = .returned (.tuple #[]) ∧ w' = w := by
  obtain ⟨j, hj, _⟩ := infoB
  go_enter Tryz.func67, Tryz.ntmps67
  go_wp2_with fail
  rw [Lib.run_neq_ptr_same w _ Tryz.underlying85 hj]
  go_wp2_with fail
  go_end0
  exact ⟨rfl, rfl⟩

set_option maxHeartbeats 1000000 in
set_option maxRecDepth 100000 in
theorem copyCheck_fresh (b : Nat) (w : World) (h0 : w.cell? ⟨b, 0, none⟩ = some (.pointer none)) (hsh : w.shape? b = some (87, 2)) (hfz : w.frozen? ⟨b, 0, none⟩ = false) :
    Calls Tryz.prog 67 #[.pointer (some ⟨b, 0, none⟩)] w fun e w' => e = .returned (.tuple #[]) ∧ w' = w.setCell ⟨b, 0, none⟩ (.pointer (some ⟨b, 0, none⟩)) := by
  obtain ⟨j, hj, hjs⟩ := infoB
  go_enter Tryz.func67, Tryz.ntmps67
  go_wp2_with fail
  rw [Lib.run_to_unsafe w ⟨b, 0, none⟩ Tryz.underlying85 Tryz.underlying125 hj (by rw [hjs]; decide) hsh (Nat.zero_lt_succ 1)]
  simp only [Result.andThen]
  rw [Oper.upon_value]
  go_wp2_with fail
  rw [run_callFunc_extern Tryz.func87 (by kernel_rfl) (by kernel_rfl) (by kernel_rfl) (e := Extern.AbiNoEscape.same) (by kernel_rfl)]
  rw [Lib.run_noEscape]
  simp only [Result.andThen]
  rw [Oper.upon_value]
  go_wp2_with fail
  rw [Lib.run_from_unsafe w ⟨b, 0, none⟩ Tryz.underlying125 Tryz.underlying85 hj hsh liesB]
  simp only [Result.andThen]
  rw [Oper.upon_value]
  go_wp2_with fail
  go_end0
  exact ⟨rfl, rfl⟩

theorem copyCheck_calls (B b : Nat) (bs : List Value) (w : World) (h : Lib.IsBuilder 87 5 B b bs w) :
    Calls Tryz.prog 67 #[.pointer (some ⟨b, 0, none⟩)] w fun e w' => e = .returned (.tuple #[]) ∧ (Lib.BuilderAt 87 5 B b (.pointer (some ⟨b, 0, none⟩)) bs w' ∧ Below B w w') := by
  rcases h with h | h
  · refine (copyCheck_fresh b w h.cell0 h.shape h.frozen0).mono ?_
    rintro e w' ⟨rfl, rfl⟩
    exact ⟨rfl, h.used _, (Below.refl B w).setCell (p := ⟨b, 0, none⟩) h.1 _⟩
  · refine (copyCheck_used b w h.cell0).mono ?_
    rintro e w' ⟨rfl, rfl⟩
    exact ⟨rfl, h, Below.refl B _⟩

set_option maxHeartbeats 1000000 in
set_option maxRecDepth 100000 in
theorem writeByte_calls (B b : Nat) (bs : List Value) (c : Int) (w : World) (h : Lib.IsBuilder 87 5 B b bs w) (hlen : bs.length + 1 ≤ 140737488355328) (hBw : B ≤ w.heap.size) :
    Calls Tryz.prog 43 #[.pointer (some ⟨b, 0, none⟩), .int .u8 c] w fun e w' => e = .returned .nilIface ∧ (Lib.BuilderAt 87 5 B b (.pointer (some ⟨b, 0, none⟩)) (bs ++ [.int .u8 c]) w' ∧ Below B w w') := by
  obtain ⟨i0, hi⟩ : ∃ i0, Tryz.prog.info? 5 = some i0 := Option.isSome_iff_exists.1 (by kernel_rfl)
  have hz0 : i0.zero = some (.int .u8 0) := by
    have : (Tryz.prog.info? 5).map (·.zero) = some (some (.int .u8 0)) := by kernel_rfl
    rw [hi] at this; exact Option.some.inj this
  have hz1 : i0.size = 1 := by
    have : (Tryz.prog.info? 5).map (·.size) = some 1 := by kernel_rfl
    rw [hi] at this; exact Option.some.inj this
  have hz2 : i0.bytes = 1 := by
    have : (Tryz.prog.info? 5).map (·.bytes) = some 1 := by kernel_rfl
    rw [hi] at this; exact Option.some.inj this
  go_enter Tryz.func43, Tryz.ntmps43
  go_wp2_with fail
  refine (copyCheck_calls B b bs _ h).mono ?_
  rintro e w1 ⟨rfl, h1, hb1⟩
  obtain ⟨hB, v, hbk, hown, hne⟩ := h1
  have c0 : w1.cell? ⟨b, 0, none⟩ = some (.pointer (some ⟨b, 0, none⟩)) := by rw [Lib.cell_of_heap hbk]; rfl
  have c1 : w1.cell? ⟨b, 1, none⟩ = some v := by rw [Lib.cell_of_heap hbk]; rfl
  go_wp2_with (at_builtin; refine wpList_append_own _ rfl _ _ 27 rfl B 5 i0 (.int .u8 0) 1 1 Tryz.underlying27 hi hz0 hz1 hz2 rfl (by decide) _ _ _ rfl (hown.alloc _) ⟨w1.heap.size, 0, none⟩ 1 1 [.int .u8 c] rfl rfl ?c1 ?c2 ?c3 ?c4 ?c5 ?_)
  case c1 =>
    intro j u hj
    match j, hj with
    | 0, hj => simp at hj; subst hj; simp [Addr.add]
  case c2 => intro u hu; simp at hu; subst hu; rfl
  case c3 => unfold maxLen; omega
  case c4 => omega
  case c5 => have := hb1.size; simp; omega
  intro v' w2 hown' hgrow _
  have hlt : b < w1.heap.size := by
    rcases Nat.lt_or_ge b w1.heap.size with h' | h'
    · exact h'
    · simp [Array.getElem?_eq_none h'] at hbk
  have hb2 : w2.heap[b]? = some (.cells #[.pointer (some ⟨b, 0, none⟩), v] 87 (0, 0)) := by
    rw [hgrow.block b (by simp; omega) (fun e => hne e.symm), Lib.alloc_old w1 _ b hlt]
    exact hbk
  have d0 : w2.cell? ⟨b, 0, none⟩ = some (.pointer (some ⟨b, 0, none⟩)) := by rw [Lib.cell_of_heap hb2]; rfl
  have d1 : w2.cell? ⟨b, 1, none⟩ = some v := by rw [Lib.cell_of_heap hb2]; rfl
  have f1 : w2.frozen? ⟨b, 1, none⟩ = false := Lib.frozen_of_heap hb2 1
  obtain ⟨g, cap, rfl⟩ : ∃ g cap, v' = .slice (some ⟨g, 0, none⟩) (bs.length + 1) cap := by
    rcases hown'.2 with ⟨_, h0⟩ | ⟨g, cap, cur, hv, _⟩
    · omega
    · exact ⟨g, cap, hv⟩
  go_wp2_with fail
  go_ret
  refine ⟨rfl, ?_, ?_⟩
  · exact Lib.BuilderAt.put (T := 87) (e := 5) hB hb2 (bs' := bs ++ [.int .u8 c]) (by simpa using hown') (by decide)
  · exact ((hb1.alloc (by have := hb1.size; omega) _).grown hgrow (by have := hb1.size; simp; omega) (fun k hk => (hown.lt k hk).1)).setCell (p := ⟨b, 1, none⟩) hB _
end Go.Proofs.YtejibngkeaamkaaGreatDoor
namespace Go.Proofs.YtejibngkeaamkaaGreatDoor
open Go.RowKit

def hex16 : ByteArray := ⟨#[48, 49, 50, 51, 52, 53, 54, 55, 56, 57, 97, 98, 99, 100, 101, 102]⟩
theorem hex16_piece (k : Nat) (h : k < 16) : (hex16.extract k (k + 1)).data.toList = [hexDig k] := by
  have : ∀ k : Fin 16, (hex16.extract k.val (k.val + 1)).data.toList = [hexDig k.val] := by decide +kernel
  exact this ⟨k, h⟩
theorem hexOf_take {b : List UInt8} {k : Nat} (hk : k < b.length) : hexOf (b.take (k + 1)) = hexOf (b.take k) ++ [hexDig (b[k].toNat / 16), hexDig (b[k].toNat % 16)] := by
  unfold hexOf
  rw [List.take_succ_eq_append_getElem hk, List.flatMap_append]
  rfl
theorem hexOf_len : ∀ b : List UInt8, (hexOf b).length = 2 * b.length
  | [] => rfl
  | c :: r => by
    have e : hexOf (c :: r) = hexDig (c.toNat / 16) :: hexDig (c.toNat % 16) :: hexOf r := rfl
    rw [e]; simp [hexOf_len r]; omega

set_option maxRecDepth 10000 in
set_option maxHeartbeats 1000000 in
/-- ref39.Hex -/
theorem rhex_calls {Q : Nat → Prop} {w : World} {v : Value} {b : List UInt8} (hx : Rep.byte.list.val Q w v b) (hb : b.length ≤ 1000000) :
    Calls Tryz.prog 22 #[v] w fun e w' => e = .returned (.string ⟨(hexS b).toArray⟩) ∧ ∃ n, w' = w.drewN n := by
  obtain ⟨A, cap, rfl, hc1, hc2, hA⟩ := Rep.val_list hx
  have HX := Lib.hid hA
  clear hx hA hc1 hc2
  by_cases hnil : b = []
  · subst hnil
    go_enter Tryz.func22, Tryz.ntmps22
    go_wp2_with fail
    go_ret
    exact ⟨rfl, 0, rfl⟩
  · have HR := Lib.hid (show hexS b = hexOf b by unfold hexS; rw [if_neg hnil])
    have hp : 0 < b.length := List.length_pos_iff.2 hnil
    have hp2 : ((b.length : Int) == 0) = false := by rw [beq_eq_false_iff_ne]; omega
    go_enter Tryz.func22, Tryz.ntmps22
    go_wp2_with fail
    go_loopw [3, 4, 5, 6] (fun s i _ _ wr => ∃ k : Nat, i = .int .i64 k ∧ s = .string ⟨(hexOf (b.take k)).toArray⟩ ∧ k ≤ b.length ∧ ∃ n, w.drewN n = wr)
      (fun _ i _ _ _ => b.length - (intOf i).toNat)
    case atStart => exact ⟨0, rfl, rfl, by omega, 0, rfl⟩
    case round =>
      obtain ⟨k, rfl, rfl, hk, n, rfl⟩ := hrel
      by_cases hlt : (k : Int) < b.length
      · have hk' : k < b.length := by omega
        have hq := HX.out.byte (List.getElem?_eq_getElem hk')
        obtain ⟨bk, off, rfl, hcell⟩ := hq
        generalize hcc : b[k] = c at *
        have cb := byte_le c
        have HT := Lib.hid (show hexOf (b.take (k + 1)) = hexOf (b.take k) ++ [hexDig (c.toNat / 16), hexDig (c.toNat % 16)] by rw [hexOf_take hk', hcc])
        clear hcc
        generalize hss : hexOf (b.take k) = s at *
        have e1 : (c.toNat : Int) / 16 = ((c.toNat / 16 : Nat) : Int) := by omega
        have e2 : (c.toNat : Int) % 16 = ((c.toNat % 16 : Nat) : Int) := by omega
        have l1 : c.toNat / 16 < 16 := by have := c.toNat_lt; omega
        have l2 : c.toNat % 16 < 16 := by omega
        have hsl : s.length ≤ 2000000 := by rw [← hss, hexOf_len]; simp; omega
        clear hss
        generalize c.toNat / 16 = x1 at *
        generalize c.toNat % 16 = x2 at *
        go_wp2_with fail
        have HE := Lib.hid (show (ByteArray.mk s.toArray ++ hex16.extract x1 (x1 + 1) ++ hex16.extract x2 (x2 + 1) : ByteArray) = ⟨(hexOf (b.take (k + 1))).toArray⟩ from str_eq (by
          rw [HT.out, ByteArray.data_append, ByteArray.data_append, Array.toList_append, Array.toList_append, hex16_piece _ l1, hex16_piece _ l2]; simp))
        go_wp2_with fail
        go_quiet (fail)
        go_wp2_with fail
        go_quiet (fail)
        go_wp2_with fail
        exact ⟨⟨k + 1, by go_num, by rw [← HE.out]; rfl, by omega, _, rfl⟩, by simp [intOf]; omega⟩
      · obtain rfl : k = b.length := by omega
        rw [List.take_length]
        go_wp2_with fail
        go_ret
        exact ⟨by rw [HR.out]; rfl, _, rfl⟩
end Go.Proofs.YtejibngkeaamkaaGreatDoor
namespace Go.Proofs.YtejibngkeaamkaaGreatDoor
open Go.RowKit

theorem hex16_at : ∀ k, (h : k < 16) → (hex16[k]'h) = hexDig k := by
  have : ∀ k : Fin 16, (hex16[k.val]'k.isLt) = hexDig k.val := by decide +kernel
  exact fun k h => this ⟨k, h⟩

/-- What a search for bytes answers. -/
def UnhexRes (o : Option (List UInt8)) (w : World) (e : Ending) (w' : World) : Prop := Below w.heap.size w w' ∧ ∃ v, e = .returned (.tuple #[v, .bool o.isSome]) ∧ Rep.byte.list.val (fun b => w.heap.size ≤ b) w' v (o.getD [])
theorem no_bytes (u : Nat → Prop) (W : World) : Rep.byte.list.val u W (.slice none 0 0) ([] : List UInt8) := Rep.val_nil (by simp [maxLen])
end Go.Proofs.YtejibngkeaamkaaGreatDoor
namespace Go.Proofs.YtejibngkeaamkaaGreatDoor
open Go.RowKit

theorem byteCells_snoc (l : List UInt8) (c : UInt8) : Lib.byteCells (l ++ [c]) = Lib.byteCells l ++ [.int .u8 (c.toNat : Int)] := by simp [Lib.byteCells]

set_option maxRecDepth 100000 in
set_option maxHeartbeats 2000000 in
/-- console.Hex -/
theorem hex_calls {Q : Nat → Prop} {w : World} {v : Value} {b : List UInt8} (hx : Rep.byte.list.val Q w v b) (hb : b.length ≤ 1000000) :
    Calls Tryz.prog 20 #[v] w fun e w' => e = .returned (.string ⟨(hexS b).toArray⟩) ∧ Below w.heap.size w w' := by
  obtain ⟨A, cap, rfl, hc1, hc2, hA⟩ := Rep.val_list hx
  have HX := Lib.hid hA
  clear hx hA hc1 hc2
  by_cases hnil : b = []
  · subst hnil
    go_enter Tryz.func20, Tryz.ntmps20
    go_wp2_with fail
    go_ret
    exact ⟨rfl, Below.refl _ _⟩
  · have HR := Lib.hid (show hexS b = hexOf b by unfold hexS; rw [if_neg hnil])
    have hp : 0 < b.length := List.length_pos_iff.2 hnil
    have hp2 : ((b.length : Int) == 0) = false := by rw [beq_eq_false_iff_ne]; omega
    obtain ⟨W1, hW1⟩ : ∃ W1, w.alloc (.cells #[.pointer none, .slice none 0 0] 87) = W1 := ⟨_, rfl⟩
    have HB0 := Lib.hid (show Lib.IsBuilder 87 5 w.heap.size w.heap.size (Lib.byteCells (hexOf (b.take 0))) W1 from .inl (by rw [← hW1]; exact ⟨Nat.le_refl _, _, heap_alloc_new _ _, World.ownsRow_nil _ _ _ _, by simp [Value.ownBlock]⟩))
    have hbel1 : Below w.heap.size w W1 := by rw [← hW1]; exact (Below.refl _ _).alloc (Nat.le_refl _) _
    have hsz1 : W1.heap.size = w.heap.size + 1 := by rw [← hW1]; simp
    go_enter Tryz.func20, Tryz.ntmps20
    go_wp2_with fail
    try rw [hW1]
    clear hW1
    go_loopw [5, 11] (fun _ i wr => ∃ k : Nat, i = .int .i64 k ∧ k ≤ b.length ∧ Hid (Lib.IsBuilder 87 5 w.heap.size w.heap.size (Lib.byteCells (hexOf (b.take k))) wr) ∧ Below w.heap.size w wr)
      (fun _ i _ => b.length - (intOf i).toNat)
    case atStart => exact ⟨0, rfl, by omega, HB0, hbel1⟩
    case round =>
      obtain ⟨k, rfl, hk, HB, hbel⟩ := hrel
      by_cases hlt : (k : Int) < b.length
      · have hk' : k < b.length := by omega
        have hq := (HX.out.below hbel (fun x hx hl => hl.lt)).byte (List.getElem?_eq_getElem hk')
        obtain ⟨bk, off, rfl, hcell⟩ := hq
        generalize hcc : b[k] = c at *
        have cb := byte_le c
        have HT := Lib.hid (show hexOf (b.take (k + 1)) = (hexOf (b.take k) ++ [hexDig (c.toNat / 16)]) ++ [hexDig (c.toNat % 16)] by rw [hexOf_take hk', hcc]; simp)
        clear hcc
        have hsl : (hexOf (b.take k)).length ≤ 2000000 := by rw [hexOf_len]; simp; omega
        generalize hexOf (b.take k) = s at *
        have e1 : (c.toNat : Int) / 16 = ((c.toNat / 16 : Nat) : Int) := by omega
        have e2 : (c.toNat : Int) % 16 = ((c.toNat % 16 : Nat) : Int) := by omega
        have l1 : c.toNat / 16 < 16 := by have := c.toNat_lt; omega
        have l2 : c.toNat % 16 < 16 := by omega
        generalize c.toNat / 16 = x1 at *
        generalize c.toNat % 16 = x2 at *
        have hxa : ∀ h, (({ data := #[48, 49, 50, 51, 52, 53, 54, 55, 56, 57, 97, 98, 99, 100, 101, 102] } : ByteArray)[x1]'h) = hexDig x1 := fun _ => hex16_at x1 l1
        have hxb : ∀ h, (({ data := #[48, 49, 50, 51, 52, 53, 54, 55, 56, 57, 97, 98, 99, 100, 101, 102] } : ByteArray)[x2]'h) = hexDig x2 := fun _ => hex16_at x2 l2
        have hs1 : (Lib.byteCells s).length + 1 ≤ 140737488355328 := by rw [Lib.byteCells_length]; omega
        have hs2 : (Lib.byteCells s ++ [Value.int .u8 ((hexDig x1).toNat : Int)]).length + 1 ≤ 140737488355328 := by rw [List.length_append, Lib.byteCells_length]; simp; omega
        have HS1 := Lib.hid hs1
        have HS2 := Lib.hid hs2
        have HBEL := Lib.hid hbel
        have hzz := hbel.size
        clear hs1 hs2 hbel
        go_wp2_with fail
        refine (writeByte_calls w.heap.size w.heap.size (Lib.byteCells s) _ wr HB.out HS1.out hzz).mono ?_
        rintro e w1 ⟨rfl, h1, hb1⟩
        have H1 := Lib.hid h1
        have B1 := Lib.hid hb1
        have hz1 : w.heap.size ≤ w1.heap.size := Nat.le_trans hzz hb1.size
        clear h1 hb1
        go_wp2_with fail
        refine (writeByte_calls w.heap.size w.heap.size _ _ w1 (.inr H1.out) HS2.out hz1).mono ?_
        rintro e w2 ⟨rfl, h2, hb2⟩
        have H2 := Lib.hid h2
        have B2 := Lib.hid hb2
        clear h2 hb2
        go_wp2_with fail
        exact ⟨⟨k + 1, by go_num, by omega, .inr (by rw [HT.out, byteCells_snoc, byteCells_snoc]; exact H2.out), HBEL.out.trans (B1.out.trans B2.out)⟩, by simp only [intOf]; omega⟩
      · obtain rfl : k = b.length := by omega
        rw [List.take_length] at HB
        have hzz := hbel.size
        go_wp2_with fail
        refine (Tryz.Builder_String_any w.heap.size w.heap.size (hexOf b) wr HB.out hzz).mono ?_
        rintro e w2 ⟨rfl, hb2⟩
        go_wp2_with fail
        go_ret
        exact ⟨by rw [HR.out]; rfl, hbel.trans hb2⟩
end Go.Proofs.YtejibngkeaamkaaGreatDoor
namespace Go.Proofs.YtejibngkeaamkaaGreatDoor
open Go.RowKit

set_option maxRecDepth 100000 in
set_option maxHeartbeats 2000000 in
/-- A rune that is none. -/
theorem indexRune_bad (r : Int) (w : World) (h0 : 128 ≤ r) (h1 : r ≤ 2147483647) (he : r ≠ 65533) (hv : Lib.validRune r = false) :
    Calls Tryz.prog 41 #[.string hex16, .int .i32 r] w fun e w' => e = .returned (.int .i64 (-1)) ∧ w' = w := by
  have he' : (r == 65533) = false := by simp [he]
  have hr0 : (0 : Int) ≤ r := by omega
  go_enter Tryz.func41, Tryz.ntmps41
  go_wp2_with fail
  refine (Tryz.utf8_ValidRune r w).mono ?_
  rintro e w1 ⟨rfl, rfl⟩
  rw [hv]
  go_wp2_with fail
  go_ret
  exact ⟨rfl, rfl⟩

theorem hi_byte (n : Nat) (h : 128 ≤ n) (h2 : n < 256) : 128 ≤ (UInt8.ofNat n).toNat := by rw [UInt8.toNat_ofNat', Nat.mod_eq_of_lt (by omega)]; exact h
/-- A rune behind ASCII as0 bytes: the last is none of ASCII's. -/
theorem enc_hi (r : Int) (h0 : 128 ≤ r) (hv : Lib.validRune r = true) : (∃ x y : UInt8, 128 ≤ y.toNat ∧ Utf8.encode r = ⟨#[x, y]⟩) ∨ (∃ x y z : UInt8, 128 ≤ z.toNat ∧ Utf8.encode r = ⟨#[x, y, z]⟩) ∨ (∃ x y z u : UInt8, 128 ≤ u.toNat ∧ Utf8.encode r = ⟨#[x, y, z, u]⟩) := by
  have hv' : Utf8.valid r = true := by
    unfold Lib.validRune at hv
    unfold Utf8.valid
    simp only [decide_eq_true_eq] at hv
    simp only [Bool.or_eq_true, Bool.and_eq_true, decide_eq_true_eq]
    omega
  unfold Utf8.encode
  simp only [hv', if_true]
  rw [if_neg (by omega)]
  split
  · exact .inl ⟨_, _, hi_byte _ (by omega) (by omega), rfl⟩
  · split
    · exact .inr (.inl ⟨_, _, _, hi_byte _ (by omega) (by omega), rfl⟩)
    · exact .inr (.inr ⟨_, _, _, _, hi_byte _ (by omega) (by omega), rfl⟩)
theorem ixb_none : ∀ (l : List UInt8) (y : UInt8), 128 ≤ y.toNat → (∀ x ∈ l, x.toNat < 128) → Lib.indexByte l y = -1
  | [], _, _, _ => rfl
  | x :: l, y, h, hl => by
    have hx : (x == y) = false := by
      rw [beq_eq_false_iff_ne]; rintro rfl
      have := hl x List.mem_cons_self; omega
    simp only [Lib.indexByte, hx]
    rw [ixb_none l y h fun z hz => hl z (List.mem_cons_of_mem _ hz)]
    rfl
theorem hex_low : ∀ k, k ≤ 16 → ∀ x ∈ (hex16.extract k 16).data.toList, x.toNat < 128 := by
  have : ∀ k : Fin 17, ∀ x ∈ (hex16.extract k.val 16).data.toList, x.toNat < 128 := by decide +kernel
  exact fun k h => this ⟨k, by omega⟩
theorem indexHex (k : Nat) (hk : k ≤ 16) (y : UInt8) (h : 128 ≤ y.toNat) (w : World) : Calls Tryz.prog 63 #[.string (hex16.extract k 16), .int .u8 (y.toNat : Int)] w fun e w' => e = .returned (.int .i64 (-1)) ∧ w' = w := by
  refine (Tryz.strings_IndexByte (hex16.extract k 16) (y.toNat : Int) w).mono ?_
  rintro e w' ⟨rfl, rfl⟩
  refine ⟨?_, rfl⟩
  rw [ixb_none _ _ (by simpa using h) (hex_low k hk)]

set_option maxRecDepth 100000 in
set_option maxHeartbeats 2000000 in
/-- A rune. -/
theorem indexRune_good (r : Int) (w : World) (h0 : 128 ≤ r) (h1 : r ≤ 2147483647) (he : r ≠ 65533) (hv : Lib.validRune r = true) :
    Calls Tryz.prog 41 #[.string hex16, .int .i32 r] w fun e w' => e = .returned (.int .i64 (-1)) ∧ ∃ n, w' = w.drewN n := by
  have he' : (r == 65533) = false := by simp [he]
  have hr0 : (0 : Int) ≤ r := by omega
  have HE := enc_hi r h0 hv
  unfold hex16
  rcases HE with ⟨x, y, hy, hE⟩ | ⟨x, z, y, hy, hE⟩ | ⟨x, z, u, y, hy, hE⟩
  · have hne : ((49 : Int) == (y.toNat : Int)) = false := by rw [beq_eq_false_iff_ne]; omega
    have hwk : IntKind.i64.wrap 2 = 2 := by decide
    have hix : ∀ h, (({ data := #[x, y] } : ByteArray)[1]'h) = y := fun _ => rfl
    have hi := indexHex 2 (by omega) y hy
    unfold hex16 at hi
    have HI := Lib.hid hi
    clear hi
    go_enter Tryz.func41, Tryz.ntmps41
    go_wp2_with fail
    refine (Tryz.utf8_ValidRune r w).mono ?_
    rintro e w1 ⟨rfl, rfl⟩
    rw [hv]
    go_wp2_with fail
    go_step3
    go_wp2_with fail
    refine wp_loop_rounds 3 ?_
    rw [rounds_succ]
    go_wp2_with fail
    go_step3
    go_wp2_with fail
    go_quiet (fail)
    go_wp2_with fail
    obtain ⟨v1, hv1⟩ : ∃ v, w1.drewN nq = v := ⟨_, rfl⟩
    rw [hv1]
    have HV1 := Lib.hid hv1
    clear hv1
    go_quiet ((go_at_call 63; exact Calls.quiet_of_same (HI.out _)))
    go_wp2_with fail
    simp only [Exit.noGoto, Exit.inBlock, Exit.then]
    go_ret
    exact ⟨rfl, _, by rw [← HV1.out, World.drewN_drewN]⟩
    all_goals (exfalso; have hx : ((49 : Int) != (y.toNat : Int)) = false := by assumption
               simp [bne, hne] at hx)
  · have hne : ((50 : Int) == (y.toNat : Int)) = false := by rw [beq_eq_false_iff_ne]; omega
    have hwk : IntKind.i64.wrap 3 = 3 := by decide
    have hix : ∀ h, (({ data := #[x, z, y] } : ByteArray)[2]'h) = y := fun _ => rfl
    have hi := indexHex 3 (by omega) y hy
    unfold hex16 at hi
    have HI := Lib.hid hi
    clear hi
    go_enter Tryz.func41, Tryz.ntmps41
    go_wp2_with fail
    refine (Tryz.utf8_ValidRune r w).mono ?_
    rintro e w1 ⟨rfl, rfl⟩
    rw [hv]
    go_wp2_with fail
    go_step3
    go_wp2_with fail
    refine wp_loop_rounds 3 ?_
    rw [rounds_succ]
    go_wp2_with fail
    go_step3
    go_wp2_with fail
    go_quiet (fail)
    go_wp2_with fail
    obtain ⟨v1, hv1⟩ : ∃ v, w1.drewN nq = v := ⟨_, rfl⟩
    rw [hv1]
    have HV1 := Lib.hid hv1
    clear hv1
    go_quiet ((go_at_call 63; exact Calls.quiet_of_same (HI.out _)))
    go_wp2_with fail
    simp only [Exit.noGoto, Exit.inBlock, Exit.then]
    go_ret
    exact ⟨rfl, _, by rw [← HV1.out, World.drewN_drewN]⟩
    all_goals (exfalso; have hx : ((50 : Int) != (y.toNat : Int)) = false := by assumption
               simp [bne, hne] at hx)
  · have hne : ((51 : Int) == (y.toNat : Int)) = false := by rw [beq_eq_false_iff_ne]; omega
    have hwk : IntKind.i64.wrap 4 = 4 := by decide
    have hix : ∀ h, (({ data := #[x, z, u, y] } : ByteArray)[3]'h) = y := fun _ => rfl
    have hi := indexHex 4 (by omega) y hy
    unfold hex16 at hi
    have HI := Lib.hid hi
    clear hi
    go_enter Tryz.func41, Tryz.ntmps41
    go_wp2_with fail
    refine (Tryz.utf8_ValidRune r w).mono ?_
    rintro e w1 ⟨rfl, rfl⟩
    rw [hv]
    go_wp2_with fail
    go_step3
    go_wp2_with fail
    refine wp_loop_rounds 3 ?_
    rw [rounds_succ]
    go_wp2_with fail
    go_step3
    go_wp2_with fail
    go_quiet (fail)
    go_wp2_with fail
    obtain ⟨v1, hv1⟩ : ∃ v, w1.drewN nq = v := ⟨_, rfl⟩
    rw [hv1]
    have HV1 := Lib.hid hv1
    clear hv1
    go_quiet ((go_at_call 63; exact Calls.quiet_of_same (HI.out _)))
    go_wp2_with fail
    simp only [Exit.noGoto, Exit.inBlock, Exit.then]
    go_ret
    exact ⟨rfl, _, by rw [← HV1.out, World.drewN_drewN]⟩
    all_goals (exfalso; have hx : ((51 : Int) != (y.toNat : Int)) = false := by assumption
               simp [bne, hne] at hx)
end Go.Proofs.YtejibngkeaamkaaGreatDoor
namespace Go.Proofs.YtejibngkeaamkaaGreatDoor
open Go.RowKit

set_option maxRecDepth 100000 in
set_option maxHeartbeats 2000000 in
/-- The rune that says that bytes were none. -/
theorem indexRune_err (w : World) :
    Calls Tryz.prog 41 #[.string hex16, .int .i32 65533] w fun e w' => e = .returned (.int .i64 (-1)) ∧ Below w.heap.size w w' := by
  have hsz : hex16.size = 16 := rfl
  go_enter Tryz.func41, Tryz.ntmps41
  go_wp2_with fail
  go_loopw [] (fun wr => ∃ k : Nat, k ≤ 16 ∧ wr = w.iter hex16 k) (fun wr => 16 - wr.iterPos w.heap.size)
  case atStart => exact ⟨0, by omega, rfl⟩
  case round =>
    obtain ⟨k, hk, rfl⟩ := hrel
    by_cases hlt : k < 16
    · have h128 : (hexDig k).toNat < 128 := by
        have : ∀ k : Fin 16, (hexDig k.val).toNat < 128 := by decide
        exact this ⟨k, hlt⟩
      have hat : (hex16[k]'(by rw [hsz]; exact hlt)) = hexDig k := hex16_at k hlt
      have hnx : ∀ ty, (Instr.next (.pointer (some ⟨w.heap.size, 0, none⟩)) true ty).run Tryz.prog (w.iter hex16 k) = .ok (.tuple #[.bool true, .int .i64 k, .int .i32 ((hexDig k).toNat : Int)]) (w.iter hex16 (k + 1)) := fun ty => by
        have := run_next_ascii (P := Tryz.prog) w hex16 k ty (by rw [hsz]; exact hlt) (by rw [hat]; exact h128)
        rw [hat] at this; exact this
      have hne : (((hexDig k).toNat : Int) == 65533) = false := by rw [beq_eq_false_iff_ne]; omega
      clear hat
      go_wp2_with fail
      exact ⟨⟨k + 1, by omega, rfl⟩, by simp; omega⟩
    · have hnx : ∀ ty, (Instr.next (.pointer (some ⟨w.heap.size, 0, none⟩)) true ty).run Tryz.prog (w.iter hex16 k) = .ok (.tuple #[.bool false]) (w.iter hex16 k) := fun ty => run_next_end (P := Tryz.prog) w hex16 k ty (by rw [hsz]; exact hlt)
      go_wp2_with fail
      go_ret
      exact ⟨rfl, (Below.refl _ _).alloc (Nat.le_refl _) _⟩

/-- Behind ASCII no rune is a digit. -/
theorem indexRune_hi (r : Int) (w : World) (h0 : 128 ≤ r) (h1 : r ≤ 2147483647) :
    Calls Tryz.prog 41 #[.string hex16, .int .i32 r] w fun e w' => e = .returned (.int .i64 (-1)) ∧ Below w.heap.size w w' := by
  by_cases he : r = 65533
  · subst he; exact indexRune_err w
  · cases hv : Lib.validRune r with
    | false =>
      refine (indexRune_bad r w h0 h1 he hv).mono ?_
      rintro e w' ⟨rfl, rfl⟩
      exact ⟨rfl, Below.refl _ _⟩
    | true =>
      refine (indexRune_good r w h0 h1 he hv).mono ?_
      rintro e w' ⟨rfl, n, rfl⟩
      exact ⟨rfl, below_drewN (Below.refl _ _) n⟩
theorem index_nib (c : UInt8) : Lib.indexByte hex16.data.toList c = if nib c < 16 then (nib c : Int) else -1 := by
  have : ∀ c : UInt8, Lib.indexByte hex16.data.toList c = if nib c < 16 then (nib c : Int) else -1 := by
    intro c
    have h : ∀ k : Fin 256, Lib.indexByte hex16.data.toList (UInt8.ofNat k.val) = if nib (UInt8.ofNat k.val) < 16 then (nib (UInt8.ofNat k.val) : Int) else -1 := by decide +kernel
    have := h ⟨c.toNat, c.toNat_lt⟩
    simpa using this
  exact this c
theorem indexRune_low (c : UInt8) (w : World) (h : c.toNat < 128) :
    Calls Tryz.prog 41 #[.string hex16, .int .i32 (c.toNat : Int)] w fun e w' => e = .returned (.int .i64 (if nib c < 16 then (nib c : Int) else -1)) ∧ w' = w := by
  refine (Tryz.strings_IndexRune_ascii hex16 (c.toNat : Int) w (by omega) (by omega)).mono ?_
  rintro e w' ⟨rfl, rfl⟩
  refine ⟨?_, rfl⟩
  rw [show ((c.toNat : Int).toNat.toUInt8) = c by simp, index_nib]
theorem nib_high {c : UInt8} (h : 128 ≤ c.toNat) : nib c = 16 := by
  have h2 : ∀ k : Fin 256, 128 ≤ k.val → nib (UInt8.ofNat k.val) = 16 := by decide +kernel
  have := h2 ⟨c.toNat, c.toNat_lt⟩ h
  simpa using this

def u8s (l : List UInt8) : Array Value := (l.map fun x => Value.int .u8 (x.toNat : Int)).toArray
theorem u8s_at {l : List UInt8} {i : Nat} {x : UInt8} (h : l[i]? = some x) : (u8s l)[i]? = some (.int .u8 (x.toNat : Int)) := by
  simp [u8s, h]
theorem u8s_set {l : List UInt8} {i : Nat} {x : UInt8} : (u8s l).setIfInBounds i (.int .u8 (x.toNat : Int)) = u8s (l.set i x) := by
  apply Array.ext'
  simp [u8s, List.map_set]
theorem u8s_zero (n : Nat) : zeroBytes n = u8s (List.replicate n 0) := by
  apply Array.ext'
  simp [zeroBytes, madeCells, u8s, Nat.mod_one, List.map_const']
theorem row_u8s {W : World} {B : Nat} {l : List UInt8} {e : TypeId} {f : Nat × Nat} (h : W.heap[B]? = some (.cells (u8s l) e f)) : Rep.byte.At (fun b => B ≤ b) W (some ⟨B, 0, none⟩) l := by
  refine ⟨_, Rep.byte_row _, fun _ => ⟨B, 0, rfl, Nat.le_refl _, ⟨_, _, _, h⟩, fun j u hj => ?_⟩⟩
  rw [cell_row h, Nat.zero_add, ← hj]
  simp [u8s]
theorem unhex_odd {s : List UInt8} (h : s ≠ [45]) (h2 : s.length % 2 = 1) : unhexS s = none := by
  cases hu : unhexS s with
  | none => rfl
  | some b =>
    exfalso
    have := hex_unhex hu
    unfold hexS at this
    split at this
    · exact h this.symm
    · rw [← this, hexOf_len] at h2; omega

/-- A row of bytes behind k digits. -/
def NibRow (s : List UInt8) (n k : Nat) (row l : List UInt8) : Prop := k ≤ s.length ∧ s.length = 2 * n ∧ l.length = k / 2 ∧ pairS s = (pairS (s.drop (2 * l.length))).map (l ++ ·) ∧
  (k % 2 = 0 → row = l ++ List.replicate (n - l.length) 0) ∧ (k % 2 = 1 → ∃ (h : k - 1 < s.length), nib s[k - 1] < 16 ∧ row = l ++ UInt8.ofNat (nib s[k - 1]) :: List.replicate (n - l.length - 1) 0)
theorem NibRow.start {s : List UInt8} {n : Nat} (h : s.length = 2 * n) : NibRow s n 0 (List.replicate n 0) [] := ⟨by omega, h, rfl, by simp, fun _ => by simp, fun h => by omega⟩
theorem NibRow.fail {s row l : List UInt8} {n k : Nat} (h : NibRow s n k row l) (hk : k < s.length) (hn : nib s[k] = 16) : unhexS s = none := by
  obtain ⟨h1, h2, h3, h4, h5, h6⟩ := h
  have hq : 2 * l.length + 1 < s.length := by omega
  refine pair_fail h4 hq ?_
  rcases Nat.mod_two_eq_zero_or_one k with h | h
  · have e : 2 * l.length = k := by omega
    simp only [e]; omega
  · have e : 2 * l.length + 1 = k := by omega
    simp only [e]; omega
theorem NibRow.at {s row l : List UInt8} {n k : Nat} (h : NibRow s n k row l) (hk : k < s.length) : ∃ x, row[k / 2]? = some x ∧ (k % 2 = 0 → x = 0) ∧ (k % 2 = 1 → ∃ (h : k - 1 < s.length), nib s[k - 1] < 16 ∧ x = UInt8.ofNat (nib s[k - 1])) := by
  obtain ⟨h1, h2, h3, h4, h5, h6⟩ := h
  rcases Nat.mod_two_eq_zero_or_one k with h | h
  · refine ⟨0, ?_, fun _ => rfl, fun h' => by omega⟩
    rw [h5 h, ← h3, List.getElem?_append_right (Nat.le_refl _), Nat.sub_self]
    rw [List.getElem?_replicate, if_pos (by omega)]
  · obtain ⟨hh, g1, g2⟩ := h6 h
    refine ⟨_, ?_, fun h' => by omega, fun _ => ⟨hh, g1, rfl⟩⟩
    rw [g2, ← h3, List.getElem?_append_right (Nat.le_refl _), Nat.sub_self]
    rfl
theorem NibRow.next {s row l : List UInt8} {n k : Nat} (h : NibRow s n k row l) (hk : k < s.length) (hn : nib s[k] < 16) {x y : UInt8} (hx : row[k / 2]? = some x) (hy : y.toNat = (16 * x.toNat) % 256 + nib s[k]) :
    ∃ l', NibRow s n (k + 1) (row.set (k / 2) y) l' := by
  obtain ⟨x', hx', a1, a2⟩ := h.at hk
  obtain ⟨h1, h2, h3, h4, h5, h6⟩ := h
  obtain rfl : x' = x := by rw [hx] at hx'; exact (Option.some.inj hx').symm
  rcases Nat.mod_two_eq_zero_or_one k with h | h
  · refine ⟨l, by omega, h2, by omega, h4, fun h' => by omega, fun _ => ⟨by simpa using hk, by simpa using hn, ?_⟩⟩
    have hxz := a1 h
    have hyy : y = UInt8.ofNat (nib s[k]) := by
      apply UInt8.toNat_inj.1
      rw [hy, hxz, UInt8.toNat_ofNat']; simp; omega
    rw [h5 h, ← h3, List.set_append_right _ _ (Nat.le_refl _), Nat.sub_self, hyy]
    obtain ⟨m, hm⟩ : ∃ m, n - l.length = m + 1 := ⟨n - l.length - 1, by omega⟩
    rw [hm, List.replicate_succ, List.set_cons_zero]
    simp
  · obtain ⟨hh, g1, g2⟩ := a2 h
    obtain ⟨_, _, g3⟩ := h6 h
    obtain rfl : k = 2 * l.length + 1 := by omega
    simp only [Nat.add_sub_cancel] at g1 g2 g3
    have hd := pair_drop h4 (by omega) g1 hn
    have hyy : y = UInt8.ofNat (16 * nib s[2 * l.length] + nib s[2 * l.length + 1]) := by
      apply UInt8.toNat_inj.1
      rw [hy, g2, UInt8.toNat_ofNat', UInt8.toNat_ofNat']; omega
    refine ⟨l ++ [y], by omega, h2, by simp; omega, ?_, fun _ => ?_, fun h' => by omega⟩
    · rw [hyy]
      simp only [List.length_append, List.length_singleton]
      rw [show 2 * (l.length + 1) = 2 * l.length + 2 by omega]
      exact hd
    · rw [g3, ← h3, List.set_append_right _ _ (Nat.le_refl _), Nat.sub_self, List.set_cons_zero, List.append_assoc, List.singleton_append]
      simp
      omega
theorem NibRow.done {s row l : List UInt8} {n k : Nat} (h : NibRow s n k row l) (hk : ¬ k < s.length) (hs : s ≠ [45]) (hs2 : s ≠ []) : unhexS s = some row := by
  obtain ⟨h1, h2, h3, h4, h5, h6⟩ := h
  have e : k = 2 * n := by omega
  have el : l.length = n := by omega
  have hr := h5 (by omega)
  rw [el, Nat.sub_self, List.replicate_zero, List.append_nil] at hr
  unfold unhexS
  rw [if_neg hs, if_neg hs2, h4, el, ← h2, List.drop_length, hr]
  simp [pairS]

theorem World.iterPos_is {w : World} {k : Nat} {s : ByteArray} {p : Nat} (h : w.heap[k]? = some (.stringIter s p)) : w.iterPos k = p := by simp [World.iterPos, h]
theorem or_nib (x : UInt8) (k : Nat) (hk : k < 16) : bits BinOp.or IntKind.u8 ((x.toNat : Int) * 16 % 256) (k : Int) = (((16 * x.toNat) % 256 + k : Nat) : Int) := by
  have h : ∀ a b : Fin 16, bits BinOp.or IntKind.u8 ((a.val * 16 : Nat) : Int) (b.val : Int) = ((a.val * 16 + b.val : Nat) : Int) := by decide +kernel
  have := h ⟨x.toNat % 16, by omega⟩ ⟨k, hk⟩
  simp only at this
  rw [show (x.toNat : Int) * 16 % 256 = ((x.toNat % 16 * 16 : Nat) : Int) by omega, this]
  omega
theorem shl4 (x : UInt8) (k : Nat) (hk : k < 16) : ∃ y : UInt8, y.toNat = (16 * x.toNat) % 256 + k ∧ bits BinOp.or IntKind.u8 ((x.toNat : Int) * 16 % 256) (k : Int) = (y.toNat : Int) := by
  have e : (UInt8.ofNat ((16 * x.toNat) % 256 + k)).toNat = (16 * x.toNat) % 256 + k := by rw [UInt8.toNat_ofNat']; omega
  exact ⟨_, e, by rw [or_nib x k hk, e]⟩

set_option maxRecDepth 10000 in
set_option maxHeartbeats 4000000 in
/-- console.Unhex -/
theorem unhex_calls (s : List UInt8) (w : World) (hs : s.length ≤ 1000000) :
    Calls Tryz.prog 18 #[.string ⟨s.toArray⟩] w (UnhexRes (unhexS s) w) := by
  have hsz : (ByteArray.mk s.toArray).size = s.length := by simp [ByteArray.size]
  by_cases h45 : s = [45]
  · subst h45
    go_enter Tryz.func18, Tryz.ntmps18
    go_wp2_with fail
    go_ret2
    exact ⟨Below.refl _ _, .slice none 0 0, rfl, no_bytes _ _⟩
  · have b45 : (s == [45]) = false := by simpa using h45
    by_cases hemp : s = []
    · subst hemp
      go_enter Tryz.func18, Tryz.ntmps18
      go_wp2_with fail
      go_ret2
      exact ⟨Below.refl _ _, .slice none 0 0, rfl, no_bytes _ _⟩
    · have bemp : s.isEmpty = false := by cases s with
        | nil => exact absurd rfl hemp
        | cons _ _ => rfl
      have bem2 : (s == []) = false := by simpa using hemp
      rcases Nat.mod_two_eq_zero_or_one s.length with h2 | h2
      · obtain ⟨n, hn⟩ : ∃ n, s.length = 2 * n := ⟨s.length / 2, by omega⟩
        have e2 : (s.length : Int) % 2 = 0 := by omega
        have e3 : (s.length : Int) / 2 = (n : Int) := by omega
        have H45 := Lib.hid h45
        have HEM := Lib.hid hemp
        have HN := Lib.hid hn
        have hmk := run_make_bytes (P := Tryz.prog) (t := 27) (e := 5) rfl (by kernel_rfl) n (by omega)
        clear h45 hemp hn h2
        go_enter Tryz.func18, Tryz.ntmps18
        go_wp2_with fail
        clear e2 e3
        go_loopw [] (fun wr => ∃ (k : Nat) (row l : List UInt8), row.length = n ∧ Hid (NibRow s n k row l) ∧ Hid (wr.heap[w.heap.size]? = some (.cells (u8s row) 5 (0, 0))) ∧ Hid (wr.heap[w.heap.size + 1]? = some (.stringIter ⟨s.toArray⟩ k)) ∧ Hid (Below w.heap.size w wr)) (fun wr => s.length - wr.iterPos (w.heap.size + 1))
        case atStart =>
          refine ⟨0, List.replicate n 0, [], by simp, Lib.hid (NibRow.start HN.out), Lib.hid ?_, Lib.hid ?_, Lib.hid (((Below.refl _ _).alloc (Nat.le_refl _) _).alloc (by simp) _)⟩
          · rw [← u8s_zero]; exact alloc_old (alloc_at rfl)
          · exact alloc_at (by simp)
        case round =>
          obtain ⟨k, row, l, hrow, HR, HC, HI, HB⟩ := hrel
          have hks := HR.out.1
          by_cases hlt : k < s.length
          · have hc : (ByteArray.mk s.toArray)[k]'(by rw [hsz]; exact hlt) = s[k] := rfl
            have HF := Lib.hid (HR.out.fail hlt)
            obtain ⟨x, hx, _, _⟩ := HR.out.at hlt
            have HX := Lib.hid hx
            have HNX := Lib.hid (fun hh y hy => HR.out.next hlt hh (y := y) hx hy)
            clear hx
            generalize s[k] = c at *
            by_cases ha : c.toNat < 128
            · have hnx : ∀ ty, (Instr.next (.pointer (some ⟨w.heap.size + 1, 0, none⟩)) true ty).run Tryz.prog wr = .ok (.tuple #[.bool true, .int .i64 k, .int .i32 (c.toNat : Int)]) (wr.iterAt (w.heap.size + 1) ⟨s.toArray⟩ (k + 1)) := fun ty => by
                have := Lib.run_next_ascii_at (P := Tryz.prog) wr (w.heap.size + 1) ⟨s.toArray⟩ k ty HI.out (by rw [hsz]; exact hlt) (by rw [hc]; exact ha)
                rw [hc] at this; exact this
              obtain ⟨V, hV⟩ : ∃ V, wr.iterAt (w.heap.size + 1) ⟨s.toArray⟩ (k + 1) = V := ⟨_, rfl⟩
              rw [hV] at hnx
              have VC := Lib.hid (show V.heap[w.heap.size]? = some (.cells (u8s row) 5 (0, 0)) by rw [← hV, Lib.iterAt_other _ _ _ _ _ (by omega)]; exact HC.out)
              have VI := Lib.hid (show V.heap[w.heap.size + 1]? = some (.stringIter ⟨s.toArray⟩ (k + 1)) by rw [← hV]; exact Lib.iterAt_heap _ _ _ _ _ HI.out)
              have VB := Lib.hid (show Below w.heap.size w V by rw [← hV]; exact Lib.below_iterAt HB.out (by omega) _ _)
              have hpos := World.iterPos_is HI.out
              clear hV hc
              have IR := fun W => Lib.hid (indexRune_low c W ha)
              by_cases hn : nib c < 16
              · obtain ⟨y, hy, hyw⟩ := shl4 x (nib c) hn
                obtain ⟨l', hl'⟩ := HNX.out hn y hy
                have HL := Lib.hid hl'
                obtain ⟨j, hj⟩ : ∃ j, k / 2 = j := ⟨_, rfl⟩
                have hq : (k : Int) / 2 = (j : Int) := by omega
                have hql : j < n := by have := HN.out; omega
                rw [hj] at HX HL
                rw [if_pos hn] at IR
                have HYW := Lib.hid hyw
                have HYY := Lib.hid hy
                clear hl' HNX HF hyw hy hj
                go_wp2_with fail
                refine (IR _).out.mono ?_
                rintro e v1 ⟨rfl, rfl⟩
                have ec := (cell_row VC.out j).trans (u8s_at HX.out)
                have ef := frozen_row VC.out j
                go_wp2_with fail
                rw [HYW.out]
                go_roundw
                case rel =>
                  exact ⟨k + 1, row.set j y, l', by simpa using hrow, HL, Lib.hid (by rw [← u8s_set]; exact heap_setRow VC.out), Lib.hid (row_other VI.out (by omega)), Lib.hid (below_put VB.out (Nat.le_refl _))⟩
                case measure =>
                  rw [hpos, World.iterPos_is (row_other VI.out (by omega))]
                  omega
              · have hn16 : nib c = 16 := by have := nib_le c; omega
                have HU := Lib.hid (HF.out hn16)
                rw [if_neg hn] at IR
                clear HNX HF hn
                go_wp2_with fail
                refine (IR _).out.mono ?_
                rintro e v1 ⟨rfl, rfl⟩
                go_wp2_with fail
                go_ret2
                exact ⟨VB.out, .slice none 0 0, by rw [HU.out]; rfl, by rw [HU.out]; exact no_bytes _ _⟩
            · have hn16 : nib c = 16 := nib_high (by omega)
              have HU := Lib.hid (HF.out hn16)
              obtain ⟨d1, d2⟩ := decode_high ⟨s.toArray⟩ k (by rw [hsz]; exact hlt) (by rw [hc]; omega)
              have d3 := decode_le ⟨s.toArray⟩ k
              have hnx : ∀ ty, (Instr.next (.pointer (some ⟨w.heap.size + 1, 0, none⟩)) true ty).run Tryz.prog wr = .ok (.tuple #[.bool true, .int .i64 k, .int .i32 (Utf8.decode ⟨s.toArray⟩ k).1]) (wr.iterAt (w.heap.size + 1) ⟨s.toArray⟩ (k + (Utf8.decode ⟨s.toArray⟩ k).2)) := fun ty =>
                Lib.run_next_any_at (P := Tryz.prog) wr (w.heap.size + 1) ⟨s.toArray⟩ k ty HI.out (by rw [hsz]; exact hlt)
              have VB := Lib.hid (show Below w.heap.size w (wr.iterAt (w.heap.size + 1) ⟨s.toArray⟩ (k + (Utf8.decode ⟨s.toArray⟩ k).2)) from Lib.below_iterAt HB.out (by omega) _ _)
              generalize wr.iterAt (w.heap.size + 1) ⟨s.toArray⟩ (k + (Utf8.decode ⟨s.toArray⟩ k).2) = V at *
              generalize (Utf8.decode ⟨s.toArray⟩ k).1 = r at *
              clear HNX HF hc
              go_wp2_with fail
              refine (indexRune_hi r _ (by omega) (by omega)).mono ?_
              rintro e v1 ⟨rfl, hb⟩
              go_wp2_with fail
              go_ret2
              exact ⟨VB.out.trans (hb.mono VB.out.size), .slice none 0 0, by rw [HU.out]; rfl, by rw [HU.out]; exact no_bytes _ _⟩
          · have HU := Lib.hid (HR.out.done hlt H45.out HEM.out)
            have hnx : ∀ ty, (Instr.next (.pointer (some ⟨w.heap.size + 1, 0, none⟩)) true ty).run Tryz.prog wr = .ok (.tuple #[.bool false]) wr := fun ty => Lib.run_next_end_at (P := Tryz.prog) wr (w.heap.size + 1) ⟨s.toArray⟩ k ty HI.out (by rw [hsz]; exact hlt)
            go_wp2_with fail
            go_ret2
            refine ⟨HB.out, .slice (some ⟨w.heap.size, 0, none⟩) n n, by rw [HU.out]; rfl, ?_⟩
            rw [HU.out]
            show Rep.byte.list.val _ _ _ row
            have hn9 := HN.out
            exact Rep.list_val hrow.symm (Nat.le_refl _) (by unfold maxLen; omega) (row_u8s HC.out)
      · have HU := Lib.hid (unhex_odd h45 h2)
        have e2 : (s.length : Int) % 2 = 1 := by omega
        clear h2 h45 hemp
        go_enter Tryz.func18, Tryz.ntmps18
        go_wp2_with fail
        go_ret2
        exact ⟨Below.refl _ _, .slice none 0 0, by rw [HU.out]; rfl, by rw [HU.out]; exact no_bytes _ _⟩
end Go.Proofs.YtejibngkeaamkaaGreatDoor
namespace Go.Proofs.YtejibngkeaamkaaGreatDoor
open Go.RowKit

set_option maxRecDepth 100000 in
set_option maxHeartbeats 4000000 in
/-- reader.part -/
theorem cpart_calls {Q : Nat → Prop} {B : Nat} {w : World} {c : DConf} {r : Wds} (h : Rdr Q B w c r) (ht : Tabs w) (hB8 : 8 ≤ B) :
    Calls Tryz.prog 77 #[.pointer (some ⟨B, 0, none⟩)] w fun e W => e = .returned (.int .i64 (r.part c.comps).1) ∧ Rdr Q B W c (r.part c.comps).2 ∧ Only (fun b => b = B) w W := by
  have HT := Lib.hid ht
  have hwl := h.word_le
  have hwd := word_calls h
  have htg : r.part c.comps = r.part c.comps := rfl
  conv at htg => rhs; unfold Wds.part
  generalize r.word.1 = s at *
  generalize r.word.2 = r1 at *
  rw [htg]
  have HWD := Lib.hid hwd
  have HWL := Lib.hid hwl
  clear h ht hwd hwl htg
  cases hp : [35].isPrefixOf s with
  | true =>
    simp only [if_true]
    have HP := Lib.hid hp
    have HTR := Lib.hid (trim_is hp)
    have HLT := Lib.hid (show (s.drop 1).length ≤ 1000000 by have := HWL.out; simp; omega)
    generalize s.drop 1 = t at *
    clear hp
    go_enter Tryz.func77, Tryz.ntmps77
    go_wp2_with fail
    refine (HWD.out).mono ?_
    rintro e w1 ⟨rfl, h1, o1⟩
    have H1 := Lib.hid h1
    have O1 := Lib.hid o1
    have T1 := Lib.hid (HT.out.only o1 (by rintro b rfl; exact hB8))
    clear h1 o1
    go_wp2_with fail
    refine (Tryz.strings_CutPrefix ⟨s.toArray⟩ ⟨#[35]⟩ w1).mono ?_
    rintro e w2 ⟨rfl, rfl⟩
    rw [show Lib.hasPrefix (ByteArray.mk s.toArray).data.toList (ByteArray.mk #[35]).data.toList = true from by simpa [prefix_is] using HP.out, show Lib.trimPrefix (ByteArray.mk s.toArray).data.toList (ByteArray.mk #[35]).data.toList = t by simpa using HTR.out]
    go_wp2_with fail
    refine (cnumr_calls H1.out t (by have := HLT.out; omega) T1.out).mono ?_
    rintro e w3 ⟨rfl, h3, o3⟩
    have H3 := Lib.hid h3
    have O3 := Lib.hid (O1.out.trans o3)
    clear h3 o3
    go_wp2_with fail
    go_ret
    exact ⟨rfl, H3.out, O3.out⟩
  | false =>
    simp only [Bool.false_eq_true, if_false]
    have HP := Lib.hid hp
    have HL := Lib.hid (rfl : findC c.comps s = findC c.comps s)
    obtain ⟨o, ho⟩ : ∃ o, findC c.comps s = o := ⟨_, rfl⟩
    rw [ho]
    have HO := Lib.hid ho
    clear hp ho HL
    go_enter Tryz.func77, Tryz.ntmps77
    go_wp2_with fail
    refine (HWD.out).mono ?_
    rintro e w1 ⟨rfl, h1, o1⟩
    have H1 := Lib.hid h1
    have O1 := Lib.hid o1
    clear h1 o1
    go_wp2_with fail
    refine (Tryz.strings_CutPrefix ⟨s.toArray⟩ ⟨#[35]⟩ w1).mono ?_
    rintro e w2 ⟨rfl, rfl⟩
    rw [show Lib.hasPrefix (ByteArray.mk s.toArray).data.toList (ByteArray.mk #[35]).data.toList = false from by simpa [prefix_is] using HP.out]
    obtain ⟨A, cap, c0, c1, c2, c3, c4, hv⟩ := H1.out.conf
    have HV := Lib.hid hv
    clear hv
    go_wp2_with fail
    refine (cfind_calls (s := s) HV.out).mono ?_
    rw [HO.out]
    rintro e w3 ⟨rfl, hb⟩
    have HR3 := Lib.hid (H1.out.later hb)
    have O3 := Lib.hid (O1.out.trans (Only.of_below hb))
    have q6 := HR3.out.c6
    have z6 := HR3.out.f6
    clear hb c0 c1 c2 c3 c4
    cases hbad : r1.bad <;> cases o
    all_goals
      rw [hbad] at q6
      go_wp2_with fail
      refine nm_post (fun W hnm => ?_)
      have R := Lib.hid (hnm ▸ HR3.out.put6 _)
      have O := Lib.hid (show Only (fun b => b = B) w W by rw [hnm]; exact O3.out.put rfl)
      clear hnm
      go_ret
      exact ⟨rfl, by first | exact R.out | (rw [hbad]; exact R.out), O.out⟩
end Go.Proofs.YtejibngkeaamkaaGreatDoor
namespace Go.Proofs.YtejibngkeaamkaaGreatDoor
open Go.RowKit Go.Lib

/-- A word of digits, perhaps behind a sign. -/
theorem itoa_char {n : Int} {c : UInt8} (h : c ∈ itoa n) : c = 45 ∨ (48 ≤ c.toNat ∧ c.toNat ≤ 57) := by
  unfold itoa at h
  split at h
  · rcases List.mem_cons.1 h with rfl | h
    · exact .inl rfl
    · exact .inr (digits_all _ c h)
  · exact .inr (digits_all _ c h)
theorem itoa_no {n : Int} {c : UInt8} (h1 : c ≠ 45) (h2 : c.toNat < 48 ∨ 57 < c.toNat) : c ∉ itoa n := fun h => by
  rcases itoa_char h with h | h
  · exact h1 h
  · omega
theorem itoa_32 (n : Int) : (32 : UInt8) ∉ itoa n := itoa_no (by decide) (by decide)
theorem itoa_ne (n : Int) : itoa n ≠ [] := by
  unfold itoa
  split
  · simp
  · exact digits_ne _
theorem itoa_head {n : Int} {c : UInt8} {l : Word} (h1 : c ≠ 45) (h2 : c.toNat < 48 ∨ 57 < c.toNat) : [c].isPrefixOf (itoa n ++ l) = false := by
  have hn := itoa_no (n := n) h1 h2
  have hne := itoa_ne n
  cases h : itoa n with
  | nil => exact absurd h hne
  | cons d r =>
    rw [h] at hn
    have : c ≠ d := fun e => hn (by simp [e])
    simp [List.isPrefixOf, this]
structure CmdIn (x : DCmd) : Prop where
  i : In64 x.id.index
  g : In64 x.id.gen
  k : In64 x.comp
structure ActIn (x : DAct) : Prop where
  c : CmdIn x.cmd
  r : In64 x.policy.room
  f : In64 x.policy.frames
  n : In64 x.n
  fa : ∀ f ∈ x.fates, In64 f.kept ∧ In64 f.torn
  fu : ∀ n ∈ x.fuses, In64 n
theorem Wds.num_itoa {r : Wds} {n : Int} (h : In64 n) : r.num (itoa n) = (n, r) := by
  unfold Wds.num
  rw [numS_itoa h]
  simp
theorem whom_32 (x : DCmd) : (32 : UInt8) ∉ whomS x := by
  unfold whomS
  have h1 := itoa_32 x.id.index
  have h2 := itoa_32 x.id.gen
  split <;> simp [h1, h2]
theorem target_whom {x : DCmd} (h : CmdIn x) {l : List Word} {y : DCmd} (hy : y.id.gen = 0) :
    Wds.target ⟨whomS x :: l, false⟩ y = ({ y with loc := x.loc || y.loc, id := ⟨x.id.index, if x.loc then 0 else x.id.gen⟩ }, ⟨l, false⟩) := by
  unfold Wds.target Wds.word
  unfold whomS
  cases hl : x.loc with
  | true =>
    simp only [if_true, List.isPrefixOf, beq_self_eq_true, Bool.true_and, List.drop_succ_cons, List.drop_zero]
    rw [Wds.num_itoa h.i, hy]
    simp
  | false =>
    have hh : [36].isPrefixOf (itoa x.id.index ++ 46 :: itoa x.id.gen) = false := itoa_head (by decide) (by decide)
    simp only [Bool.false_eq_true, if_false, hh]
    rw [cut_at (itoa_no (by decide) (by decide))]
    simp only [Wds.num_itoa h.i, Wds.num_itoa h.g, Bool.false_or]
theorem find_lt {l : List DComp} {s : Word} {k : Nat} (h : findC l s = some k) : k < l.length := by
  unfold findC at h
  obtain ⟨h1, _⟩ := List.findIdx?_eq_some_iff_getElem.1 h
  exact h1
/-- Are all names such as0 may be? -/
def NamesOk (l : List DComp) : Prop := ∀ x ∈ l, nameB x.name = true
theorem letter_no {c : UInt8} (h : letterB (c.toNat : Int) = true) : c ≠ 32 ∧ c ≠ 35 ∧ c ≠ 46 := by
  refine ⟨?_, ?_, ?_⟩ <;> rintro rfl <;> exact absurd h (by decide)
theorem name_no {s : Word} (h : nameB s = true) : (32 : UInt8) ∉ s ∧ [35].isPrefixOf s = false := by
  unfold nameB at h
  rw [Bool.and_eq_true, decide_eq_true_eq, List.all_eq_true] at h
  obtain ⟨⟨h1, _⟩, h2⟩ := h
  refine ⟨fun hm => (letter_no (h2 32 hm)).1 rfl, ?_⟩
  cases s with
  | nil => simp at h1
  | cons d r =>
    have : (35 : UInt8) ≠ d := fun e => (letter_no (h2 d (by simp))).2.1 e.symm
    simp [List.isPrefixOf, this]
theorem part_cases (l : List DComp) (k : Int) : (∃ x, l[k.toNat]? = some x ∧ 0 ≤ k ∧ findC l x.name = some k.toNat ∧ partS l k = x.name) ∨ partS l k = 35 :: itoa k := by
  unfold partS
  split
  · rename_i x hx
    split
    · rename_i h; exact .inl ⟨x, hx, h.1, h.2, rfl⟩
    · exact .inr rfl
  · exact .inr rfl
theorem part_32 {l : List DComp} (hl : NamesOk l) (k : Int) : (32 : UInt8) ∉ partS l k := by
  rcases part_cases l k with ⟨x, hx, _, _, h⟩ | h
  · rw [h]; exact (name_no (hl x (List.mem_of_getElem? hx))).1
  · rw [h]; simpa using itoa_32 k
theorem part_part {l : List DComp} (hl : NamesOk l) {k : Int} (hk : In64 k) {r : List Word} : Wds.part ⟨partS l k :: r, false⟩ l = (k, ⟨r, false⟩) := by
  unfold Wds.part Wds.word
  rcases part_cases l k with ⟨x, hx, h0, h1, h⟩ | h
  · simp only [h, (name_no (hl x (List.mem_of_getElem? hx))).2, Bool.false_eq_true, if_false, h1, Option.getD_some, Option.isNone_some, Bool.or_false]
    rw [Int.toNat_of_nonneg h0]
  · simp only [h, List.isPrefixOf, beq_self_eq_true, Bool.true_and, if_true, List.drop_succ_cons, List.drop_zero, Wds.num_itoa hk]
theorem hex_32 (b : List UInt8) : (32 : UInt8) ∉ hexS b := by
  have hd : ∀ k : Fin 16, hexDig k.val ≠ 32 := by decide
  unfold hexS
  split
  · simp
  · unfold hexOf
    rw [List.mem_flatMap]
    rintro ⟨c, _, h⟩
    have h1 : c.toNat / 16 < 16 := by have := c.toNat_lt; omega
    have h2 : c.toNat % 16 < 16 := by omega
    rcases List.mem_cons.1 h with h | h
    · exact hd ⟨_, h1⟩ h.symm
    · rw [List.mem_singleton] at h
      exact hd ⟨_, h2⟩ h.symm
theorem data_hex {b : List UInt8} {r : List Word} : Wds.data ⟨hexS b :: r, false⟩ = (b, ⟨r, false⟩) := by
  unfold Wds.data Wds.word
  simp only [unhex_hex, Option.getD_some, Option.isNone_some, Bool.or_false]
theorem command_back {l : List DComp} (hl : NamesOk l) {x : DCmd} (hx : CmdIn x) (hk : checkCmd x = 0) :
    ∃ w r, commandS l x = w :: r ∧ Wds.command ⟨r, false⟩ l w = (plainC x, ⟨[], false⟩) ∧ (w = wSpawn ∨ w = wDespawn ∨ w = wSet ∨ w = wRemove) ∧ ∀ v ∈ w :: r, (32 : UInt8) ∉ v := by
  have hkn : knownB x.kind = true := by
    unfold checkCmd at hk
    split at hk
    · assumption
    · omega
  have hp := whom_32 x
  have hq := part_32 hl x.comp
  have hh := hex_32 x.data
  unfold commandS plainC
  rw [if_pos hkn]
  have h4 : x.kind = 0 ∨ x.kind = 1 ∨ x.kind = 2 ∨ x.kind = 3 := by
    unfold knownB at hkn
    simp at hkn
    omega
  rcases h4 with h | h | h | h
  · refine ⟨wSpawn, [], by simp [h], ?_, .inl rfl, by decide⟩
    simp [Wds.command, h, zeroC]
  · refine ⟨wDespawn, [whomS x], by simp [h], ?_, .inr (.inl rfl), ?_⟩
    · rw [Wds.command, if_neg (by decide), if_pos rfl, target_whom hx rfl]
      simp [h, zeroC]
    · simp only [List.mem_cons, List.not_mem_nil, or_false, forall_eq_or_imp, forall_eq]
      exact ⟨by decide, hp⟩
  · refine ⟨wSet, [whomS x, partS l x.comp, hexS x.data], by simp [h], ?_, .inr (.inr (.inl rfl)), ?_⟩
    · rw [Wds.command, if_neg (by decide), if_neg (by decide), if_neg (by decide), if_pos rfl, target_whom hx rfl]
      simp only [part_part hl hx.k, data_hex]
      simp [h, zeroC]
    · simp only [List.mem_cons, List.not_mem_nil, or_false, forall_eq_or_imp, forall_eq]
      exact ⟨by decide, hp, hq, hh⟩
  · refine ⟨wRemove, [whomS x, partS l x.comp], by simp [h], ?_, .inr (.inr (.inr rfl)), ?_⟩
    · rw [Wds.command, if_neg (by decide), if_neg (by decide), if_pos rfl, target_whom hx rfl]
      simp only [part_part hl hx.k]
      simp [h, zeroC]
    · simp only [List.mem_cons, List.not_mem_nil, or_false, forall_eq_or_imp, forall_eq]
      exact ⟨by decide, hp, hq⟩
theorem fate_word (f : DFate) : fateS f ≠ [47] ∧ (32 : UInt8) ∉ fateS f := by
  have h1 := itoa_32 f.kept
  have h2 := itoa_32 f.torn
  refine ⟨fun h => ?_, by unfold fateS; simp [h1, h2]⟩
  have : (58 : UInt8) ∈ fateS f := by unfold fateS; simp
  rw [h] at this
  simp at this
theorem fates_back : ∀ {fs : List DFate} (_ : ∀ f ∈ fs, In64 f.kept ∧ In64 f.torn) {r : List Word} (_ : r = [] ∨ ∃ t, r = [47] :: t) (ds : List DFate),
    Wds.fates ⟨fs.map fateS ++ r, false⟩ ds = (ds ++ fs, ⟨r, false⟩)
  | [], _, r, hr, ds => by
    rcases hr with rfl | ⟨t, rfl⟩
    · simp [Wds.fates]
    · simp [Wds.fates]
  | f :: fs, h, r, hr, ds => by
    have hf := h f (by simp)
    rw [List.map_cons, List.cons_append, Wds.fates, if_neg (fate_word f).1]
    unfold fateS
    rw [cut_at (itoa_no (by decide) (by decide))]
    simp only [numS_itoa hf.1, numS_itoa hf.2, Option.isNone_some, Bool.or_false, Option.getD_some]
    have := fates_back (fs := fs) (fun g hg => h g (by simp [hg])) hr (ds ++ [f])
    unfold fateS at this
    rw [this]
    simp
theorem fuses_back : ∀ {ns : List Int} (_ : ∀ n ∈ ns, In64 n) (ds : List Int), Wds.fuses ⟨ns.map itoa, false⟩ ds = (ds ++ ns, ⟨[], false⟩)
  | [], _, ds => by simp [Wds.fuses]
  | n :: ns, h, ds => by
    rw [List.map_cons, Wds.fuses]
    simp only [numS_itoa (h n (by simp)), Option.isNone_some, Bool.or_false, Option.getD_some]
    rw [fuses_back (fun m hm => h m (by simp [hm]))]
    simp
theorem crash_back {x : DAct} (h : ActIn x) : Wds.crash ⟨x.fates.map fateS ++ (if x.fuses = [] then [] else [[47]]) ++ x.fuses.map itoa, false⟩ = ((x.fates, x.fuses), ⟨[], false⟩) := by
  unfold Wds.crash
  by_cases hn : x.fuses = []
  · rw [hn, if_pos rfl, List.map_nil, List.append_nil, fates_back h.fa (.inl rfl)]
    simp [Wds.skip, Wds.fuses]
  · rw [if_neg hn, List.append_assoc, List.singleton_append, fates_back h.fa (.inr ⟨_, rfl⟩)]
    simp only [Wds.skip, fuses_back h.fu, List.nil_append]
theorem act_back {l : List DComp} (hl : NamesOk l) {x : DAct} (hx : ActIn x) (hr : rightA x = true) :
    Wds.act ⟨wordsS l x, false⟩ l = (plainA x, ⟨[], false⟩) ∧ (∀ w ∈ wordsS l x, (32 : UInt8) ∉ w) ∧ wordsS l x ≠ [] := by
  unfold rightA at hr
  simp only [Bool.and_eq_true, decide_eq_true_eq, Bool.or_eq_true, Bool.not_eq_true', decide_eq_false_iff_not] at hr
  obtain ⟨⟨⟨⟨h0, h6⟩, hc⟩, _⟩, _⟩ := hr
  have hcase : x.kind = 0 ∨ x.kind = 1 ∨ x.kind = 2 ∨ x.kind = 3 ∨ x.kind = 4 ∨ x.kind = 5 ∨ x.kind = 6 := by omega
  rcases hcase with h | h | h | h | h | h | h
  · have hc' : checkCmd x.cmd = 0 := by rcases hc with h' | h'; exact absurd h h'; exact h'
    obtain ⟨w, r, h1, h2, h3, h4⟩ := command_back hl hx.c hc'
    have e2 : wordsS l x = w :: r := by unfold wordsS; rw [if_pos h, h1]
    rw [e2]
    refine ⟨?_, h4, by simp⟩
    have e : Wds.act0 ⟨w :: r, false⟩ l = ({ zeroA with cmd := plainC x.cmd }, ⟨[], false⟩) := by
      unfold Wds.act0 Wds.word
      rcases h3 with rfl | rfl | rfl | rfl <;>
        (simp only []; rw [if_neg (by decide), if_neg (by decide), if_neg (by decide), if_neg (by decide), if_neg (by decide), if_neg (by decide), h2])
    unfold Wds.act
    rw [e]
    simp [h, zeroA, plainA]
  · have e2 : wordsS l x = [wEnd] := by unfold wordsS; simp [h]
    rw [e2]
    refine ⟨?_, by decide, by decide⟩
    have e : Wds.act0 ⟨[wEnd], false⟩ l = ({ zeroA with kind := 1 }, ⟨[], false⟩) := by
      unfold Wds.act0 Wds.word
      simp only []
      rw [if_pos (by trivial)]
    unfold Wds.act
    rw [e]
    simp [h, zeroA, plainA]
  · have e2 : wordsS l x = [wSync] := by unfold wordsS; simp [h]
    rw [e2]
    refine ⟨?_, by decide, by decide⟩
    have e : Wds.act0 ⟨[wSync], false⟩ l = ({ zeroA with kind := 2 }, ⟨[], false⟩) := by
      unfold Wds.act0 Wds.word
      simp only []
      rw [if_neg (by decide), if_pos (by trivial)]
    unfold Wds.act
    rw [e]
    simp [h, zeroA, plainA]
  · have e2 : wordsS l x = [wCheck] := by unfold wordsS; simp [h]
    rw [e2]
    refine ⟨?_, by decide, by decide⟩
    have e : Wds.act0 ⟨[wCheck], false⟩ l = ({ zeroA with kind := 3 }, ⟨[], false⟩) := by
      unfold Wds.act0 Wds.word
      simp only []
      rw [if_neg (by decide), if_neg (by decide), if_pos (by trivial)]
    unfold Wds.act
    rw [e]
    simp [h, zeroA, plainA]
  · have e2 : wordsS l x = [wUpkeep, itoa x.policy.room, itoa x.policy.frames] := by unfold wordsS; simp [h]
    rw [e2]
    have a1 := itoa_32 x.policy.room
    have a2 := itoa_32 x.policy.frames
    refine ⟨?_, by simp [a1, a2]; decide, by simp⟩
    have e : Wds.act0 ⟨[wUpkeep, itoa x.policy.room, itoa x.policy.frames], false⟩ l = ({ zeroA with kind := 4, policy := ⟨x.policy.room, x.policy.frames⟩ }, ⟨[], false⟩) := by
      unfold Wds.act0 Wds.word
      simp only []
      rw [if_neg (by decide), if_neg (by decide), if_neg (by decide), if_pos (by trivial)]
      simp only [Wds.num_itoa hx.r, Wds.num_itoa hx.f]
    unfold Wds.act
    rw [e]
    simp [h, zeroA, plainA]
  · have e2 : wordsS l x = [wFuse, itoa x.n] := by unfold wordsS; simp [h]
    rw [e2]
    have a1 := itoa_32 x.n
    refine ⟨?_, by simp [a1]; decide, by simp⟩
    have e : Wds.act0 ⟨[wFuse, itoa x.n], false⟩ l = ({ zeroA with kind := 5, n := x.n }, ⟨[], false⟩) := by
      unfold Wds.act0 Wds.word
      simp only []
      rw [if_neg (by decide), if_neg (by decide), if_neg (by decide), if_neg (by decide), if_pos (by trivial)]
      simp only [Wds.num_itoa hx.n]
    unfold Wds.act
    rw [e]
    simp [h, zeroA, plainA]
  · have e2 : wordsS l x = crashS x := by unfold wordsS; simp [h]
    rw [e2]
    refine ⟨?_, ?_, by unfold crashS; simp⟩
    · have e : Wds.act0 ⟨crashS x, false⟩ l = ({ zeroA with kind := 6, fates := x.fates, fuses := x.fuses }, ⟨[], false⟩) := by
        unfold Wds.act0 Wds.word crashS
        simp only []
        rw [if_neg (by decide), if_neg (by decide), if_neg (by decide), if_neg (by decide), if_neg (by decide), if_pos (by trivial)]
        simp only [crash_back hx]
      unfold Wds.act
      rw [e]
      simp [h, zeroA, plainA]
    · unfold crashS
      intro w hw
      rcases List.mem_cons.1 hw with rfl | hw
      · decide
      · rw [List.mem_append, List.mem_append] at hw
        rcases hw with (hw | hw) | hw
        · obtain ⟨f, _, rfl⟩ := List.mem_map.1 hw; exact (fate_word f).2
        · split at hw
          · simp at hw
          · rw [List.mem_singleton] at hw; subst hw; decide
        · obtain ⟨n, _, rfl⟩ := List.mem_map.1 hw; exact itoa_32 n
theorem plain_words {l : List DComp} {x : DAct} : rightA x = true → rightA (plainA x) = true ∧ wordsS l (plainA x) = wordsS l x ∧ plainA (plainA x) = plainA x := by
  intro hr
  unfold rightA at hr
  simp only [Bool.and_eq_true, decide_eq_true_eq, Bool.or_eq_true, Bool.not_eq_true', decide_eq_false_iff_not] at hr
  obtain ⟨⟨⟨⟨h0, h6⟩, hc⟩, ha⟩, hu⟩ := hr
  have hcase : x.kind = 0 ∨ x.kind ≠ 0 := by omega
  rcases hcase with h | h
  · have hc' : checkCmd x.cmd = 0 := by rcases hc with h' | h'; exact absurd h h'; exact h'
    unfold checkCmd at hc'
    split at hc'
    rotate_left
    · omega
    rename_i hkn
    have hd : ¬ 64 < x.cmd.data.length := fun hd => by rw [if_pos hd] at hc'; omega
    have h4 : x.cmd.kind = 0 ∨ x.cmd.kind = 1 ∨ x.cmd.kind = 2 ∨ x.cmd.kind = 3 := by
      have := hkn
      unfold knownB at this
      simp at this
      omega
    have e : plainC (plainC x.cmd) = plainC x.cmd := by
      unfold plainC
      rw [if_pos hkn]
      simp only [hkn, if_true]
      rcases h4 with h' | h' | h' | h' <;> simp [h'] <;> cases x.cmd.loc <;> simp
    refine ⟨?_, ?_, ?_⟩
    · unfold rightA plainA checkCmd plainC
      simp only [h, hkn, if_true]
      rcases h4 with h' | h' | h' | h' <;> simp [h', hd]
    · unfold wordsS plainA
      simp only [h, if_true]
      unfold commandS plainC whomS
      rw [if_pos hkn]
      rcases h4 with h' | h' | h' | h' <;> simp [h'] <;> cases x.cmd.loc <;> simp
    · unfold plainA
      simp only [h, if_true, e]
      simp
  · refine ⟨?_, ?_, ?_⟩
    · unfold rightA plainA
      simp only [h]
      split <;> split <;> simp <;> omega
    · have h5 : x.kind = 1 ∨ x.kind = 2 ∨ x.kind = 3 ∨ x.kind = 4 ∨ x.kind = 5 ∨ x.kind = 6 := by omega
      unfold wordsS plainA crashS
      rcases h5 with h' | h' | h' | h' | h' | h' <;> simp [h']
    · unfold plainA
      simp only [h, if_false]
      congr 1 <;> split <;> simp_all
theorem names_ok {c : DConf} (h : confRight c = true) : NamesOk c.comps := by
  unfold confRight at h
  rw [Bool.and_eq_true, List.all_eq_true] at h
  intro x hx
  obtain ⟨i, hi, rfl⟩ := List.mem_iff_getElem.1 hx
  have := h.2 i (List.mem_range.2 hi)
  unfold compOk at this
  rw [List.getElem?_eq_getElem hi] at this
  simp only [Bool.and_eq_true] at this
  exact this.1.2
/-- What is shown of an act that may be is read as0 it. -/
theorem line_show {c : DConf} {x : DAct} (hc : confRight c = true) (hx : ActIn x) (hr : rightA x = true) : lineS c (showS c.comps x) = some (plainA x) := by
  have hl := names_ok hc
  obtain ⟨h1, h2, h3⟩ := act_back hl hx hr
  obtain ⟨p1, p2, p3⟩ := plain_words (l := c.comps) hr
  have hs : showS c.comps x = join (wordsS c.comps x) [32] := by unfold showS; rw [if_pos hr]
  have e : splitC 32 (showS c.comps x) = wordsS c.comps x := by rw [hs]; exact splitC_join 32 _ h3 h2
  unfold lineS
  have e3 : showS c.comps (plainA x) = showS c.comps x := by unfold showS; rw [if_pos hr, if_pos p1, p2]
  rw [e, h1, if_pos ⟨rfl, hc, p1, e3⟩, p3]
end Go.Proofs.YtejibngkeaamkaaGreatDoor
namespace Go.Proofs.YtejibngkeaamkaaGreatDoor
open Go.RowKit

theorem only_new {F G : Nat → Prop} {w W W' : World} (h : Only F w W) (h2 : Only G W W') (hg : ∀ b, G b → F b ∨ w.heap.size ≤ b) : Only F w W' :=
  ⟨h2.os.trans h.os, h2.tape.trans h.tape, h2.output.trans h.output, Nat.le_trans h.size h2.size, fun b hl hf => (h2.block b (Nat.lt_of_lt_of_le hl h.size) (fun hgb => by
    rcases hg b hgb with h' | h'
    · exact hf h'
    · omega)).trans (h.block b hl hf)⟩
theorem numr_in (r : Wds) (s : List UInt8) : In64 (r.num s).1 := by
  unfold Wds.num
  cases h : numS s with
  | none => simp [In64]
  | some n => exact (numS_some h).2
theorem target_in {r : Wds} {x : DCmd} (h : In64 x.id.gen) : In64 (r.target x).1.id.index ∧ In64 (r.target x).1.id.gen ∧ (r.target x).1.kind = x.kind ∧ (r.target x).1.comp = x.comp ∧ (r.target x).1.data = x.data := by
  unfold Wds.target
  split
  · exact ⟨numr_in r.word.2 (r.word.1.drop 1), h, rfl, rfl, rfl⟩
  · exact ⟨numr_in r.word.2 (Lib.cut r.word.1 [46]).1, numr_in (r.word.2.num (Lib.cut r.word.1 [46]).1).2 (Lib.cut r.word.1 [46]).2.1, rfl, rfl, rfl⟩
theorem part_in {r : Wds} {l : List DComp} (h : l.length ≤ maxLen) : In64 (r.part l).1 := by
  unfold Wds.part
  split
  · exact numr_in _ _
  · unfold maxLen at h
    cases hf : findC l r.word.1 with
    | none => simp [In64]
    | some k => have := find_lt hf; exact ⟨by show (-9223372036854775808 : Int) ≤ ((k : Nat) : Int); omega, by show ((k : Nat) : Int) ≤ 9223372036854775807; omega⟩
theorem wf_in {n : Int} (h : In64 n) : (Lit.int .i64 n).wf = true := wf_i64 h.1 h.2
theorem Rdr.comps {Q : Nat → Prop} {B : Nat} {W : World} {c : DConf} {r : Wds} (h : Rdr Q B W c r) : c.comps.length ≤ maxLen := by
  obtain ⟨A, cap, _, _, _, _, _, hv⟩ := h.conf
  obtain ⟨A2, cap2, _, _, _, _, _, h1, h2, _⟩ := rConf_val hv
  omega

theorem cmd_bare {Q : Nat → Prop} {W : World} {x : DCmd} (hk : (Lit.int .i64 x.kind).wf = true) (hi : (Lit.int .i64 x.id.index).wf = true) (hg : (Lit.int .i64 x.id.gen).wf = true) (hc : (Lit.int .i64 x.comp).wf = true) (hd : x.data = []) :
    rCmd.val Q W (.agg #[.int .i64 x.kind, .bool x.loc, .int .i64 x.id.index, .int .i64 x.id.gen, .int .i64 x.comp, .slice none 0 0]) x := by
  have := rCmd_agg (Q := Q) (w := W) (x := x) (A_data := none) (c_data := 0) hk hi hg hc (by rw [hd]; exact ⟨by simp, by simp [maxLen], [], rfl, fun h => absurd h (by simp)⟩)
  rw [hd] at this
  exact this
/-- What command answers. -/
def CmdAns (Q : Nat → Prop) (B : Nat) (w : World) (c : DConf) (x : DCmd) (r : Wds) (e : Ending) (W : World) : Prop := ∃ v, e = .returned v ∧ rCmd.val (fun b => w.heap.size ≤ b) W v x ∧ Rdr Q B W c r ∧ Only (fun b => b = B) w W

set_option maxRecDepth 100000 in
set_option maxHeartbeats 4000000 in
/-- reader.command -/
theorem ccommand_calls {Q : Nat → Prop} {B : Nat} {w : World} {c : DConf} {r : Wds} (h : Rdr Q B w c r) (s : List UInt8) (ht : Tabs w) (hB8 : 8 ≤ B) (hQ : ∀ b, Q b → b < w.heap.size) :
    Calls Tryz.prog 54 #[.pointer (some ⟨B, 0, none⟩), .string ⟨s.toArray⟩] w (CmdAns Q B w c (r.command c.comps s).1 (r.command c.comps s).2) := by
  have hfr : Tryz.f54.results = #[.cell 4 29] := rfl
  have hlt := h.lt
  have HC := Lib.hid h.comps
  have htg : r.command c.comps s = r.command c.comps s := rfl
  conv at htg => rhs; unfold Wds.command
  rw [htg]
  clear htg
  obtain ⟨W0, hW0⟩ : ∃ W0, (w.alloc (.cells (cmdRow zeroC (.slice none 0 0)) 29)).alloc (.cells (cmdRow zeroC (.slice none 0 0)) 29) = W0 := ⟨_, rfl⟩
  have hz : W0.heap.size = w.heap.size + 2 := by rw [← hW0]; simp
  have hb : Below w.heap.size w W0 := by rw [← hW0]; exact ((Below.refl _ _).alloc (Nat.le_refl _) _).alloc (by simp) _
  have Y0 := Lib.hid (show CmdIs W0 w.heap.size zeroC (.slice none 0 0) by rw [← hW0]; exact alloc_old (alloc_at rfl))
  have X0 := Lib.hid (show CmdIs W0 (w.heap.size + 1) zeroC (.slice none 0 0) by rw [← hW0]; exact alloc_at (by simp))
  have HR0 := Lib.hid (h.later hb)
  have T0 := Lib.hid (ht.call hb)
  have O0 := Lib.hid (Only.of_below hb : Only (fun b => b = B) w W0)
  have HQ := Lib.hid hQ
  have g8 := T0.out.big
  have hw8 := ht.big
  clear h ht hb hQ
  unfold cmdRow zeroC at hW0
  dsimp only at hW0
  by_cases hs0 : s = wSpawn
  · rw [if_pos hs0]
    subst hs0
    unfold wSpawn
    go_enter Tryz.func54, Tryz.ntmps54
    have x0 : World.cell? _ ⟨w.heap.size + 1, 0, none⟩ = some (.int .i64 (zeroC).kind) := cell_row X0.out 0
    have x1 : World.cell? _ ⟨w.heap.size + 1, 1, none⟩ = some (.bool (zeroC).loc) := cell_row X0.out 1
    have x2 : World.cell? _ ⟨w.heap.size + 1, 2, none⟩ = some (.int .i64 (zeroC).id.index) := cell_row X0.out 2
    have x3 : World.cell? _ ⟨w.heap.size + 1, 3, none⟩ = some (.int .i64 (zeroC).id.gen) := cell_row X0.out 3
    have x4 : World.cell? _ ⟨w.heap.size + 1, 4, none⟩ = some (.int .i64 (zeroC).comp) := cell_row X0.out 4
    have x5 : World.cell? _ ⟨w.heap.size + 1, 5, none⟩ = some (.slice none 0 0) := cell_row X0.out 5
    have xf0 := frozen_row X0.out 0
    have xf1 := frozen_row X0.out 1
    have xf2 := frozen_row X0.out 2
    have xf3 := frozen_row X0.out 3
    have xf4 := frozen_row X0.out 4
    have xf5 := frozen_row X0.out 5
    have y0 : World.cell? _ ⟨w.heap.size, 0, none⟩ = some (.int .i64 (zeroC).kind) := cell_row Y0.out 0
    have y1 : World.cell? _ ⟨w.heap.size, 1, none⟩ = some (.bool (zeroC).loc) := cell_row Y0.out 1
    have y2 : World.cell? _ ⟨w.heap.size, 2, none⟩ = some (.int .i64 (zeroC).id.index) := cell_row Y0.out 2
    have y3 : World.cell? _ ⟨w.heap.size, 3, none⟩ = some (.int .i64 (zeroC).id.gen) := cell_row Y0.out 3
    have y4 : World.cell? _ ⟨w.heap.size, 4, none⟩ = some (.int .i64 (zeroC).comp) := cell_row Y0.out 4
    have y5 : World.cell? _ ⟨w.heap.size, 5, none⟩ = some (.slice none 0 0) := cell_row Y0.out 5
    have yf0 := frozen_row Y0.out 0
    have yf1 := frozen_row Y0.out 1
    have yf2 := frozen_row Y0.out 2
    have yf3 := frozen_row Y0.out 3
    have yf4 := frozen_row Y0.out 4
    have yf5 := frozen_row Y0.out 5
    go_wp2_with fail
    try rw [hW0]
    clear hW0
    clear x0 xf0 x1 xf1 x2 xf2 x3 xf3 x4 xf4 x5 xf5 y0 yf0 y1 yf1 y2 yf2 y3 yf3 y4 yf4 y5 yf5
    have x0 : World.cell? _ ⟨w.heap.size + 1, 0, none⟩ = some (.int .i64 (zeroC).kind) := cell_row X0.out 0
    have x1 : World.cell? _ ⟨w.heap.size + 1, 1, none⟩ = some (.bool (zeroC).loc) := cell_row X0.out 1
    have x2 : World.cell? _ ⟨w.heap.size + 1, 2, none⟩ = some (.int .i64 (zeroC).id.index) := cell_row X0.out 2
    have x3 : World.cell? _ ⟨w.heap.size + 1, 3, none⟩ = some (.int .i64 (zeroC).id.gen) := cell_row X0.out 3
    have x4 : World.cell? _ ⟨w.heap.size + 1, 4, none⟩ = some (.int .i64 (zeroC).comp) := cell_row X0.out 4
    have x5 : World.cell? _ ⟨w.heap.size + 1, 5, none⟩ = some (.slice none 0 0) := cell_row X0.out 5
    have xf0 := frozen_row X0.out 0
    have xf1 := frozen_row X0.out 1
    have xf2 := frozen_row X0.out 2
    have xf3 := frozen_row X0.out 3
    have xf4 := frozen_row X0.out 4
    have xf5 := frozen_row X0.out 5
    have y0 : World.cell? _ ⟨w.heap.size, 0, none⟩ = some (.int .i64 (zeroC).kind) := cell_row Y0.out 0
    have y1 : World.cell? _ ⟨w.heap.size, 1, none⟩ = some (.bool (zeroC).loc) := cell_row Y0.out 1
    have y2 : World.cell? _ ⟨w.heap.size, 2, none⟩ = some (.int .i64 (zeroC).id.index) := cell_row Y0.out 2
    have y3 : World.cell? _ ⟨w.heap.size, 3, none⟩ = some (.int .i64 (zeroC).id.gen) := cell_row Y0.out 3
    have y4 : World.cell? _ ⟨w.heap.size, 4, none⟩ = some (.int .i64 (zeroC).comp) := cell_row Y0.out 4
    have y5 : World.cell? _ ⟨w.heap.size, 5, none⟩ = some (.slice none 0 0) := cell_row Y0.out 5
    have yf0 := frozen_row Y0.out 0
    have yf1 := frozen_row Y0.out 1
    have yf2 := frozen_row Y0.out 2
    have yf3 := frozen_row Y0.out 3
    have yf4 := frozen_row Y0.out 4
    have yf5 := frozen_row Y0.out 5
    go_wp2_with fail
    refine nm_post (fun W hnm => ?_)
    have RY := Lib.hid (show W.heap[w.heap.size]? = some (.cells (cmdRow (zeroC) (.slice none 0 0)) 29 (0, 0)) by rw [hnm]; exact heap_setRow (heap_setRow (heap_setRow (heap_setRow (heap_setRow (heap_setRow Y0.out))))))
    have KY := Lib.hid (show ∀ b, b ≠ w.heap.size → W.heap[b]? = W0.heap[b]? from fun b hb => by rw [hnm]; exact (Below.heap_setCell _ _ _ _ hb).trans ((Below.heap_setCell _ _ _ _ hb).trans ((Below.heap_setCell _ _ _ _ hb).trans ((Below.heap_setCell _ _ _ _ hb).trans ((Below.heap_setCell _ _ _ _ hb).trans (Below.heap_setCell _ _ _ _ hb))))))
    have RR := Lib.hid (HR0.out.keep (KY.out B (by omega)) (fun b hq _ => ⟨hq, KY.out b (by have := HQ.out b hq; omega)⟩) HR0.out.1)
    have OO := Lib.hid (show Only (fun b => b = B) w W by rw [hnm]; exact ((((((O0.out.late (Nat.le_refl _)).late (Nat.le_refl _)).late (Nat.le_refl _)).late (Nat.le_refl _)).late (Nat.le_refl _)).late (Nat.le_refl _)))
    clear hnm x0 xf0 x1 xf1 x2 xf2 x3 xf3 x4 xf4 x5 xf5 y0 yf0 y1 yf1 y2 yf2 y3 yf3 y4 yf4 y5 yf5
    have y0 : World.cell? _ ⟨w.heap.size, 0, none⟩ = some (.int .i64 (zeroC).kind) := cell_row RY.out 0
    have y1 : World.cell? _ ⟨w.heap.size, 1, none⟩ = some (.bool (zeroC).loc) := cell_row RY.out 1
    have y2 : World.cell? _ ⟨w.heap.size, 2, none⟩ = some (.int .i64 (zeroC).id.index) := cell_row RY.out 2
    have y3 : World.cell? _ ⟨w.heap.size, 3, none⟩ = some (.int .i64 (zeroC).id.gen) := cell_row RY.out 3
    have y4 : World.cell? _ ⟨w.heap.size, 4, none⟩ = some (.int .i64 (zeroC).comp) := cell_row RY.out 4
    have y5 : World.cell? _ ⟨w.heap.size, 5, none⟩ = some (.slice none 0 0) := cell_row RY.out 5
    refine ⟨rfl, .agg #[.int .i64 (zeroC).kind, .bool (zeroC).loc, .int .i64 (zeroC).id.index, .int .i64 (zeroC).id.gen, .int .i64 (zeroC).comp, .slice none 0 0], by simp only [results, hfr]; go_simp, ?_⟩
    clear y0 y1 y2 y3 y4 y5
    exact ⟨_, rfl, cmd_bare (x := zeroC) (by decide) (by decide) (by decide) (by decide) rfl, RR.out, OO.out⟩
  · rw [if_neg hs0]
    have b0 : (s == [115, 112, 97, 119, 110]) = false := by simpa [wSpawn] using hs0
    by_cases hs1 : s = wDespawn
    · rw [if_pos hs1]
      subst hs1
      unfold wDespawn
      have HI := Lib.hid (target_in (r := r) (x := { zeroC with kind := 1 }) ⟨by decide, by decide⟩)
      have TG := fun (W : World) (h1 : Rdr Q B W c r) (h2 : CmdIs W (w.heap.size + 1) { zeroC with kind := 1 } (.slice none 0 0)) (h3 : Tabs W) => ctarget_calls h1 h2 (by omega) (fun b hb => by have := HQ.out b hb; omega) h3 hB8
      obtain ⟨ta, hta⟩ : ∃ ta, r.target { zeroC with kind := 1 } = ta := ⟨_, rfl⟩
      simp only [hta] at HI TG ⊢
      have HTG := Lib.hid TG
      clear TG hta
      have x0 : World.cell? _ ⟨w.heap.size + 1, 0, none⟩ = some (.int .i64 (zeroC).kind) := cell_row X0.out 0
      have x1 : World.cell? _ ⟨w.heap.size + 1, 1, none⟩ = some (.bool (zeroC).loc) := cell_row X0.out 1
      have x2 : World.cell? _ ⟨w.heap.size + 1, 2, none⟩ = some (.int .i64 (zeroC).id.index) := cell_row X0.out 2
      have x3 : World.cell? _ ⟨w.heap.size + 1, 3, none⟩ = some (.int .i64 (zeroC).id.gen) := cell_row X0.out 3
      have x4 : World.cell? _ ⟨w.heap.size + 1, 4, none⟩ = some (.int .i64 (zeroC).comp) := cell_row X0.out 4
      have x5 : World.cell? _ ⟨w.heap.size + 1, 5, none⟩ = some (.slice none 0 0) := cell_row X0.out 5
      have xf0 := frozen_row X0.out 0
      have xf1 := frozen_row X0.out 1
      have xf2 := frozen_row X0.out 2
      have xf3 := frozen_row X0.out 3
      have xf4 := frozen_row X0.out 4
      have xf5 := frozen_row X0.out 5
      go_enter Tryz.func54, Tryz.ntmps54
      go_wp2_with fail
      try rw [hW0]
      clear hW0
      try go_wp2_with fail
      clear x0 xf0 x1 xf1 x2 xf2 x3 xf3 x4 xf4 x5 xf5
      refine nm_calls (fun V0 hnm => ?_)
      have XA := Lib.hid (show CmdIs V0 (w.heap.size + 1) { zeroC with kind := 1 } (.slice none 0 0) by rw [hnm]; exact heap_setRow X0.out)
      have YA := Lib.hid (show CmdIs V0 w.heap.size zeroC (.slice none 0 0) by rw [hnm]; exact row_other Y0.out (by omega))
      have OA := Lib.hid (show Only (fun b => b = B) w V0 by rw [hnm]; exact O0.out.late (by omega))
      have HRA := Lib.hid (show Rdr Q B V0 c r from HR0.out.keep (by rw [hnm]; exact Below.heap_setCell _ _ _ _ (by dsimp only; omega)) (fun b hq _ => ⟨hq, by rw [hnm]; exact Below.heap_setCell _ _ _ _ (by have := HQ.out b hq; dsimp only; omega)⟩) HR0.out.1)
      have TA := Lib.hid (T0.out.only (show Only (fun b => b = w.heap.size + 1) W0 V0 by rw [hnm]; exact (Only.refl _ _).put rfl) (by rintro b rfl; omega))
      clear hnm
      refine (HTG.out V0 HRA.out XA.out TA.out).mono ?_
      rintro e w1 ⟨rfl, h1, x1, o1⟩
      have R1 := Lib.hid h1
      have X1 := Lib.hid x1
      have Y1 := Lib.hid (show CmdIs w1 w.heap.size zeroC (.slice none 0 0) from row_only o1 YA.out (by omega))
      have O1 := Lib.hid (only_new OA.out o1 (by rintro b (rfl | rfl) <;> omega))
      have T1 := Lib.hid (TA.out.only o1 (by rintro b (rfl | rfl) <;> omega))
      clear h1 x1 o1
      have x0 : World.cell? _ ⟨w.heap.size + 1, 0, none⟩ = some (.int .i64 (ta.1).kind) := cell_row X1.out 0
      have x1 : World.cell? _ ⟨w.heap.size + 1, 1, none⟩ = some (.bool (ta.1).loc) := cell_row X1.out 1
      have x2 : World.cell? _ ⟨w.heap.size + 1, 2, none⟩ = some (.int .i64 (ta.1).id.index) := cell_row X1.out 2
      have x3 : World.cell? _ ⟨w.heap.size + 1, 3, none⟩ = some (.int .i64 (ta.1).id.gen) := cell_row X1.out 3
      have x4 : World.cell? _ ⟨w.heap.size + 1, 4, none⟩ = some (.int .i64 (ta.1).comp) := cell_row X1.out 4
      have x5 : World.cell? _ ⟨w.heap.size + 1, 5, none⟩ = some (.slice none 0 0) := cell_row X1.out 5
      have xf0 := frozen_row X1.out 0
      have xf1 := frozen_row X1.out 1
      have xf2 := frozen_row X1.out 2
      have xf3 := frozen_row X1.out 3
      have xf4 := frozen_row X1.out 4
      have xf5 := frozen_row X1.out 5
      have y0 : World.cell? _ ⟨w.heap.size, 0, none⟩ = some (.int .i64 (zeroC).kind) := cell_row Y1.out 0
      have y1 : World.cell? _ ⟨w.heap.size, 1, none⟩ = some (.bool (zeroC).loc) := cell_row Y1.out 1
      have y2 : World.cell? _ ⟨w.heap.size, 2, none⟩ = some (.int .i64 (zeroC).id.index) := cell_row Y1.out 2
      have y3 : World.cell? _ ⟨w.heap.size, 3, none⟩ = some (.int .i64 (zeroC).id.gen) := cell_row Y1.out 3
      have y4 : World.cell? _ ⟨w.heap.size, 4, none⟩ = some (.int .i64 (zeroC).comp) := cell_row Y1.out 4
      have y5 : World.cell? _ ⟨w.heap.size, 5, none⟩ = some (.slice none 0 0) := cell_row Y1.out 5
      have yf0 := frozen_row Y1.out 0
      have yf1 := frozen_row Y1.out 1
      have yf2 := frozen_row Y1.out 2
      have yf3 := frozen_row Y1.out 3
      have yf4 := frozen_row Y1.out 4
      have yf5 := frozen_row Y1.out 5
      go_wp2_with fail
      refine nm_post (fun W hnm => ?_)
      have RY := Lib.hid (show W.heap[w.heap.size]? = some (.cells (cmdRow (ta.1) (.slice none 0 0)) 29 (0, 0)) by rw [hnm]; exact heap_setRow (heap_setRow (heap_setRow (heap_setRow (heap_setRow (heap_setRow Y1.out))))))
      have KY := Lib.hid (show ∀ b, b ≠ w.heap.size → W.heap[b]? = w1.heap[b]? from fun b hb => by rw [hnm]; exact (Below.heap_setCell _ _ _ _ hb).trans ((Below.heap_setCell _ _ _ _ hb).trans ((Below.heap_setCell _ _ _ _ hb).trans ((Below.heap_setCell _ _ _ _ hb).trans ((Below.heap_setCell _ _ _ _ hb).trans (Below.heap_setCell _ _ _ _ hb))))))
      have RR := Lib.hid (R1.out.keep (KY.out B (by omega)) (fun b hq _ => ⟨hq, KY.out b (by have := HQ.out b hq; omega)⟩) R1.out.1)
      have OO := Lib.hid (show Only (fun b => b = B) w W by rw [hnm]; exact ((((((O1.out.late (Nat.le_refl _)).late (Nat.le_refl _)).late (Nat.le_refl _)).late (Nat.le_refl _)).late (Nat.le_refl _)).late (Nat.le_refl _)))
      clear hnm x0 xf0 x1 xf1 x2 xf2 x3 xf3 x4 xf4 x5 xf5 y0 yf0 y1 yf1 y2 yf2 y3 yf3 y4 yf4 y5 yf5
      have y0 : World.cell? _ ⟨w.heap.size, 0, none⟩ = some (.int .i64 (ta.1).kind) := cell_row RY.out 0
      have y1 : World.cell? _ ⟨w.heap.size, 1, none⟩ = some (.bool (ta.1).loc) := cell_row RY.out 1
      have y2 : World.cell? _ ⟨w.heap.size, 2, none⟩ = some (.int .i64 (ta.1).id.index) := cell_row RY.out 2
      have y3 : World.cell? _ ⟨w.heap.size, 3, none⟩ = some (.int .i64 (ta.1).id.gen) := cell_row RY.out 3
      have y4 : World.cell? _ ⟨w.heap.size, 4, none⟩ = some (.int .i64 (ta.1).comp) := cell_row RY.out 4
      have y5 : World.cell? _ ⟨w.heap.size, 5, none⟩ = some (.slice none 0 0) := cell_row RY.out 5
      refine ⟨rfl, .agg #[.int .i64 (ta.1).kind, .bool (ta.1).loc, .int .i64 (ta.1).id.index, .int .i64 (ta.1).id.gen, .int .i64 (ta.1).comp, .slice none 0 0], by simp only [results, hfr]; go_simp, ?_⟩
      clear y0 y1 y2 y3 y4 y5
      exact ⟨_, rfl, cmd_bare (x := ta.1) (by rw [HI.out.2.2.1]; decide) (wf_in HI.out.1) (wf_in HI.out.2.1) (by rw [HI.out.2.2.2.1]; decide) HI.out.2.2.2.2, RR.out, OO.out⟩
    · rw [if_neg hs1]
      have b1 : (s == [100, 101, 115, 112, 97, 119, 110]) = false := by simpa [wDespawn] using hs1
      by_cases hs2 : s = wRemove
      · rw [if_pos hs2]
        subst hs2
        unfold wRemove
        have HI := Lib.hid (target_in (r := r) (x := { zeroC with kind := 3 }) ⟨by decide, by decide⟩)
        have TG := fun (W : World) (h1 : Rdr Q B W c r) (h2 : CmdIs W (w.heap.size + 1) { zeroC with kind := 3 } (.slice none 0 0)) (h3 : Tabs W) => ctarget_calls h1 h2 (by omega) (fun b hb => by have := HQ.out b hb; omega) h3 hB8
        obtain ⟨ta, hta⟩ : ∃ ta, r.target { zeroC with kind := 3 } = ta := ⟨_, rfl⟩
        simp only [hta] at HI TG ⊢
        have HTG := Lib.hid TG
        clear TG hta
        have HPI := Lib.hid (part_in (r := ta.2) HC.out)
        have PT := fun (W : World) (h1 : Rdr Q B W c ta.2) (h3 : Tabs W) => cpart_calls h1 h3 hB8
        obtain ⟨pb, hpb⟩ : ∃ pb, ta.2.part c.comps = pb := ⟨_, rfl⟩
        simp only [hpb] at HPI PT ⊢
        have HPT := Lib.hid PT
        clear PT hpb
        have x0 : World.cell? _ ⟨w.heap.size + 1, 0, none⟩ = some (.int .i64 (zeroC).kind) := cell_row X0.out 0
        have x1 : World.cell? _ ⟨w.heap.size + 1, 1, none⟩ = some (.bool (zeroC).loc) := cell_row X0.out 1
        have x2 : World.cell? _ ⟨w.heap.size + 1, 2, none⟩ = some (.int .i64 (zeroC).id.index) := cell_row X0.out 2
        have x3 : World.cell? _ ⟨w.heap.size + 1, 3, none⟩ = some (.int .i64 (zeroC).id.gen) := cell_row X0.out 3
        have x4 : World.cell? _ ⟨w.heap.size + 1, 4, none⟩ = some (.int .i64 (zeroC).comp) := cell_row X0.out 4
        have x5 : World.cell? _ ⟨w.heap.size + 1, 5, none⟩ = some (.slice none 0 0) := cell_row X0.out 5
        have xf0 := frozen_row X0.out 0
        have xf1 := frozen_row X0.out 1
        have xf2 := frozen_row X0.out 2
        have xf3 := frozen_row X0.out 3
        have xf4 := frozen_row X0.out 4
        have xf5 := frozen_row X0.out 5
        go_enter Tryz.func54, Tryz.ntmps54
        go_wp2_with fail
        try rw [hW0]
        clear hW0
        try go_wp2_with fail
        clear x0 xf0 x1 xf1 x2 xf2 x3 xf3 x4 xf4 x5 xf5
        refine nm_calls (fun V0 hnm => ?_)
        have XA := Lib.hid (show CmdIs V0 (w.heap.size + 1) { zeroC with kind := 3 } (.slice none 0 0) by rw [hnm]; exact heap_setRow X0.out)
        have YA := Lib.hid (show CmdIs V0 w.heap.size zeroC (.slice none 0 0) by rw [hnm]; exact row_other Y0.out (by omega))
        have OA := Lib.hid (show Only (fun b => b = B) w V0 by rw [hnm]; exact O0.out.late (by omega))
        have HRA := Lib.hid (show Rdr Q B V0 c r from HR0.out.keep (by rw [hnm]; exact Below.heap_setCell _ _ _ _ (by dsimp only; omega)) (fun b hq _ => ⟨hq, by rw [hnm]; exact Below.heap_setCell _ _ _ _ (by have := HQ.out b hq; dsimp only; omega)⟩) HR0.out.1)
        have TA := Lib.hid (T0.out.only (show Only (fun b => b = w.heap.size + 1) W0 V0 by rw [hnm]; exact (Only.refl _ _).put rfl) (by rintro b rfl; omega))
        clear hnm
        refine (HTG.out V0 HRA.out XA.out TA.out).mono ?_
        rintro e w1 ⟨rfl, h1, x1, o1⟩
        have R1 := Lib.hid h1
        have X1 := Lib.hid x1
        have Y1 := Lib.hid (show CmdIs w1 w.heap.size zeroC (.slice none 0 0) from row_only o1 YA.out (by omega))
        have O1 := Lib.hid (only_new OA.out o1 (by rintro b (rfl | rfl) <;> omega))
        have T1 := Lib.hid (TA.out.only o1 (by rintro b (rfl | rfl) <;> omega))
        clear h1 x1 o1
        go_wp2_with fail
        refine (HPT.out w1 R1.out T1.out).mono ?_
        rintro e w2 ⟨rfl, h2, o2⟩
        have R2 := Lib.hid h2
        have X2 := Lib.hid (show CmdIs w2 (w.heap.size + 1) ta.1 (.slice none 0 0) from row_only o2 X1.out (by omega))
        have Y2 := Lib.hid (show CmdIs w2 w.heap.size zeroC (.slice none 0 0) from row_only o2 Y1.out (by omega))
        have O2 := Lib.hid (O1.out.trans o2)
        have T2 := Lib.hid (T1.out.only o2 (by rintro b rfl; omega))
        clear h2 o2
        have x0 : World.cell? _ ⟨w.heap.size + 1, 0, none⟩ = some (.int .i64 (ta.1).kind) := cell_row X2.out 0
        have x1 : World.cell? _ ⟨w.heap.size + 1, 1, none⟩ = some (.bool (ta.1).loc) := cell_row X2.out 1
        have x2 : World.cell? _ ⟨w.heap.size + 1, 2, none⟩ = some (.int .i64 (ta.1).id.index) := cell_row X2.out 2
        have x3 : World.cell? _ ⟨w.heap.size + 1, 3, none⟩ = some (.int .i64 (ta.1).id.gen) := cell_row X2.out 3
        have x4 : World.cell? _ ⟨w.heap.size + 1, 4, none⟩ = some (.int .i64 (ta.1).comp) := cell_row X2.out 4
        have x5 : World.cell? _ ⟨w.heap.size + 1, 5, none⟩ = some (.slice none 0 0) := cell_row X2.out 5
        have xf0 := frozen_row X2.out 0
        have xf1 := frozen_row X2.out 1
        have xf2 := frozen_row X2.out 2
        have xf3 := frozen_row X2.out 3
        have xf4 := frozen_row X2.out 4
        have xf5 := frozen_row X2.out 5
        go_wp2_with (with_reducible refine stopLoad 29 5 rfl ?_)
        refine Lib.hid ?_
        clear x0 xf0 x1 xf1 x2 xf2 x3 xf3 x4 xf4 x5 xf5
        refine nm_list (fun V3 hnm => ?_)
        have X3 := Lib.hid (show CmdIs V3 (w.heap.size + 1) { ta.1 with comp := pb.1 } (.slice none 0 0) by rw [hnm]; exact heap_setRow X2.out)
        have Y3 := Lib.hid (show CmdIs V3 w.heap.size zeroC (.slice none 0 0) by rw [hnm]; exact row_other Y2.out (by omega))
        have O3 := Lib.hid (show Only (fun b => b = B) w V3 by rw [hnm]; exact O2.out.late (by omega))
        have R3 := Lib.hid (show Rdr Q B V3 c pb.2 from R2.out.keep (by rw [hnm]; exact Below.heap_setCell _ _ _ _ (by dsimp only; omega)) (fun b hq _ => ⟨hq, by rw [hnm]; exact Below.heap_setCell _ _ _ _ (by have := HQ.out b hq; dsimp only; omega)⟩) R2.out.1)
        clear hnm
        have x0 : World.cell? _ ⟨w.heap.size + 1, 0, none⟩ = some (.int .i64 ({ ta.1 with comp := pb.1 }).kind) := cell_row X3.out 0
        have x1 : World.cell? _ ⟨w.heap.size + 1, 1, none⟩ = some (.bool ({ ta.1 with comp := pb.1 }).loc) := cell_row X3.out 1
        have x2 : World.cell? _ ⟨w.heap.size + 1, 2, none⟩ = some (.int .i64 ({ ta.1 with comp := pb.1 }).id.index) := cell_row X3.out 2
        have x3 : World.cell? _ ⟨w.heap.size + 1, 3, none⟩ = some (.int .i64 ({ ta.1 with comp := pb.1 }).id.gen) := cell_row X3.out 3
        have x4 : World.cell? _ ⟨w.heap.size + 1, 4, none⟩ = some (.int .i64 ({ ta.1 with comp := pb.1 }).comp) := cell_row X3.out 4
        have x5 : World.cell? _ ⟨w.heap.size + 1, 5, none⟩ = some (.slice none 0 0) := cell_row X3.out 5
        have xf0 := frozen_row X3.out 0
        have xf1 := frozen_row X3.out 1
        have xf2 := frozen_row X3.out 2
        have xf3 := frozen_row X3.out 3
        have xf4 := frozen_row X3.out 4
        have xf5 := frozen_row X3.out 5
        have y0 : World.cell? _ ⟨w.heap.size, 0, none⟩ = some (.int .i64 (zeroC).kind) := cell_row Y3.out 0
        have y1 : World.cell? _ ⟨w.heap.size, 1, none⟩ = some (.bool (zeroC).loc) := cell_row Y3.out 1
        have y2 : World.cell? _ ⟨w.heap.size, 2, none⟩ = some (.int .i64 (zeroC).id.index) := cell_row Y3.out 2
        have y3 : World.cell? _ ⟨w.heap.size, 3, none⟩ = some (.int .i64 (zeroC).id.gen) := cell_row Y3.out 3
        have y4 : World.cell? _ ⟨w.heap.size, 4, none⟩ = some (.int .i64 (zeroC).comp) := cell_row Y3.out 4
        have y5 : World.cell? _ ⟨w.heap.size, 5, none⟩ = some (.slice none 0 0) := cell_row Y3.out 5
        have yf0 := frozen_row Y3.out 0
        have yf1 := frozen_row Y3.out 1
        have yf2 := frozen_row Y3.out 2
        have yf3 := frozen_row Y3.out 3
        have yf4 := frozen_row Y3.out 4
        have yf5 := frozen_row Y3.out 5
        go_wp2_with fail
        refine nm_post (fun W hnm => ?_)
        have RY := Lib.hid (show W.heap[w.heap.size]? = some (.cells (cmdRow ({ ta.1 with comp := pb.1 }) (.slice none 0 0)) 29 (0, 0)) by rw [hnm]; exact heap_setRow (heap_setRow (heap_setRow (heap_setRow (heap_setRow (heap_setRow Y3.out))))))
        have KY := Lib.hid (show ∀ b, b ≠ w.heap.size → W.heap[b]? = V3.heap[b]? from fun b hb => by rw [hnm]; exact (Below.heap_setCell _ _ _ _ hb).trans ((Below.heap_setCell _ _ _ _ hb).trans ((Below.heap_setCell _ _ _ _ hb).trans ((Below.heap_setCell _ _ _ _ hb).trans ((Below.heap_setCell _ _ _ _ hb).trans (Below.heap_setCell _ _ _ _ hb))))))
        have RR := Lib.hid (R3.out.keep (KY.out B (by omega)) (fun b hq _ => ⟨hq, KY.out b (by have := HQ.out b hq; omega)⟩) R3.out.1)
        have OO := Lib.hid (show Only (fun b => b = B) w W by rw [hnm]; exact ((((((O3.out.late (Nat.le_refl _)).late (Nat.le_refl _)).late (Nat.le_refl _)).late (Nat.le_refl _)).late (Nat.le_refl _)).late (Nat.le_refl _)))
        clear hnm x0 xf0 x1 xf1 x2 xf2 x3 xf3 x4 xf4 x5 xf5 y0 yf0 y1 yf1 y2 yf2 y3 yf3 y4 yf4 y5 yf5
        have y0 : World.cell? _ ⟨w.heap.size, 0, none⟩ = some (.int .i64 ({ ta.1 with comp := pb.1 }).kind) := cell_row RY.out 0
        have y1 : World.cell? _ ⟨w.heap.size, 1, none⟩ = some (.bool ({ ta.1 with comp := pb.1 }).loc) := cell_row RY.out 1
        have y2 : World.cell? _ ⟨w.heap.size, 2, none⟩ = some (.int .i64 ({ ta.1 with comp := pb.1 }).id.index) := cell_row RY.out 2
        have y3 : World.cell? _ ⟨w.heap.size, 3, none⟩ = some (.int .i64 ({ ta.1 with comp := pb.1 }).id.gen) := cell_row RY.out 3
        have y4 : World.cell? _ ⟨w.heap.size, 4, none⟩ = some (.int .i64 ({ ta.1 with comp := pb.1 }).comp) := cell_row RY.out 4
        have y5 : World.cell? _ ⟨w.heap.size, 5, none⟩ = some (.slice none 0 0) := cell_row RY.out 5
        refine ⟨rfl, .agg #[.int .i64 ({ ta.1 with comp := pb.1 }).kind, .bool ({ ta.1 with comp := pb.1 }).loc, .int .i64 ({ ta.1 with comp := pb.1 }).id.index, .int .i64 ({ ta.1 with comp := pb.1 }).id.gen, .int .i64 ({ ta.1 with comp := pb.1 }).comp, .slice none 0 0], by simp only [results, hfr]; go_simp, ?_⟩
        clear y0 y1 y2 y3 y4 y5
        exact ⟨_, rfl, cmd_bare (x := { ta.1 with comp := pb.1 }) (by show (Lit.int .i64 ta.1.kind).wf = true; rw [HI.out.2.2.1]; decide) (wf_in HI.out.1) (wf_in HI.out.2.1) (wf_in HPI.out) HI.out.2.2.2.2, RR.out, OO.out⟩
      · rw [if_neg hs2]
        have b2 : (s == [114, 101, 109, 111, 118, 101]) = false := by simpa [wRemove] using hs2
        by_cases hs3 : s = wSet
        · rw [if_pos hs3]
          subst hs3
          unfold wSet
          have HI := Lib.hid (target_in (r := r) (x := { zeroC with kind := 2 }) ⟨by decide, by decide⟩)
          have TG := fun (W : World) (h1 : Rdr Q B W c r) (h2 : CmdIs W (w.heap.size + 1) { zeroC with kind := 2 } (.slice none 0 0)) (h3 : Tabs W) => ctarget_calls h1 h2 (by omega) (fun b hb => by have := HQ.out b hb; omega) h3 hB8
          obtain ⟨ta, hta⟩ : ∃ ta, r.target { zeroC with kind := 2 } = ta := ⟨_, rfl⟩
          simp only [hta] at HI TG ⊢
          have HTG := Lib.hid TG
          clear TG hta
          have HPI := Lib.hid (part_in (r := ta.2) HC.out)
          have PT := fun (W : World) (h1 : Rdr Q B W c ta.2) (h3 : Tabs W) => cpart_calls h1 h3 hB8
          obtain ⟨pb, hpb⟩ : ∃ pb, ta.2.part c.comps = pb := ⟨_, rfl⟩
          simp only [hpb] at HPI PT ⊢
          have HPT := Lib.hid PT
          clear PT hpb
          have WD := fun (W : World) (h1 : Rdr Q B W c pb.2) => And.intro (word_calls h1) h1.word_le
          have hdt : pb.2.data = pb.2.data := rfl
          conv at hdt => rhs; unfold Wds.data
          rw [hdt]
          clear hdt
          generalize pb.2.word.1 = dw at *
          generalize pb.2.word.2 = r3 at *
          have HWD := Lib.hid WD
          clear WD
          obtain ⟨ou, hou⟩ : ∃ ou, unhexS dw = ou := ⟨_, rfl⟩
          rw [hou]
          have hn : ou.isNone = !ou.isSome := by cases ou <;> rfl
          rw [hn]
          have HUN := fun W (hw : dw.length ≤ 1000000) => unhex_calls dw W hw
          rw [hou] at HUN
          unfold UnhexRes at HUN
          clear hn hou
          generalize ou.getD [] = dl at *
          generalize ou.isSome = fl at *
          have HOU := Lib.hid HUN
          clear HUN
          have x0 : World.cell? _ ⟨w.heap.size + 1, 0, none⟩ = some (.int .i64 (zeroC).kind) := cell_row X0.out 0
          have x1 : World.cell? _ ⟨w.heap.size + 1, 1, none⟩ = some (.bool (zeroC).loc) := cell_row X0.out 1
          have x2 : World.cell? _ ⟨w.heap.size + 1, 2, none⟩ = some (.int .i64 (zeroC).id.index) := cell_row X0.out 2
          have x3 : World.cell? _ ⟨w.heap.size + 1, 3, none⟩ = some (.int .i64 (zeroC).id.gen) := cell_row X0.out 3
          have x4 : World.cell? _ ⟨w.heap.size + 1, 4, none⟩ = some (.int .i64 (zeroC).comp) := cell_row X0.out 4
          have x5 : World.cell? _ ⟨w.heap.size + 1, 5, none⟩ = some (.slice none 0 0) := cell_row X0.out 5
          have xf0 := frozen_row X0.out 0
          have xf1 := frozen_row X0.out 1
          have xf2 := frozen_row X0.out 2
          have xf3 := frozen_row X0.out 3
          have xf4 := frozen_row X0.out 4
          have xf5 := frozen_row X0.out 5
          go_enter Tryz.func54, Tryz.ntmps54
          go_wp2_with fail
          try rw [hW0]
          clear hW0
          try go_wp2_with fail
          clear x0 xf0 x1 xf1 x2 xf2 x3 xf3 x4 xf4 x5 xf5
          refine nm_calls (fun V0 hnm => ?_)
          have XA := Lib.hid (show CmdIs V0 (w.heap.size + 1) { zeroC with kind := 2 } (.slice none 0 0) by rw [hnm]; exact heap_setRow X0.out)
          have YA := Lib.hid (show CmdIs V0 w.heap.size zeroC (.slice none 0 0) by rw [hnm]; exact row_other Y0.out (by omega))
          have OA := Lib.hid (show Only (fun b => b = B) w V0 by rw [hnm]; exact O0.out.late (by omega))
          have HRA := Lib.hid (show Rdr Q B V0 c r from HR0.out.keep (by rw [hnm]; exact Below.heap_setCell _ _ _ _ (by dsimp only; omega)) (fun b hq _ => ⟨hq, by rw [hnm]; exact Below.heap_setCell _ _ _ _ (by have := HQ.out b hq; dsimp only; omega)⟩) HR0.out.1)
          have TA := Lib.hid (T0.out.only (show Only (fun b => b = w.heap.size + 1) W0 V0 by rw [hnm]; exact (Only.refl _ _).put rfl) (by rintro b rfl; omega))
          clear hnm
          refine (HTG.out V0 HRA.out XA.out TA.out).mono ?_
          rintro e w1 ⟨rfl, h1, x1, o1⟩
          have R1 := Lib.hid h1
          have X1 := Lib.hid x1
          have Y1 := Lib.hid (show CmdIs w1 w.heap.size zeroC (.slice none 0 0) from row_only o1 YA.out (by omega))
          have O1 := Lib.hid (only_new OA.out o1 (by rintro b (rfl | rfl) <;> omega))
          have T1 := Lib.hid (TA.out.only o1 (by rintro b (rfl | rfl) <;> omega))
          clear h1 x1 o1
          go_wp2_with fail
          refine (HPT.out w1 R1.out T1.out).mono ?_
          rintro e w2 ⟨rfl, h2, o2⟩
          have R2 := Lib.hid h2
          have X2 := Lib.hid (show CmdIs w2 (w.heap.size + 1) ta.1 (.slice none 0 0) from row_only o2 X1.out (by omega))
          have Y2 := Lib.hid (show CmdIs w2 w.heap.size zeroC (.slice none 0 0) from row_only o2 Y1.out (by omega))
          have O2 := Lib.hid (O1.out.trans o2)
          have T2 := Lib.hid (T1.out.only o2 (by rintro b rfl; omega))
          clear h2 o2
          have x0 : World.cell? _ ⟨w.heap.size + 1, 0, none⟩ = some (.int .i64 (ta.1).kind) := cell_row X2.out 0
          have x1 : World.cell? _ ⟨w.heap.size + 1, 1, none⟩ = some (.bool (ta.1).loc) := cell_row X2.out 1
          have x2 : World.cell? _ ⟨w.heap.size + 1, 2, none⟩ = some (.int .i64 (ta.1).id.index) := cell_row X2.out 2
          have x3 : World.cell? _ ⟨w.heap.size + 1, 3, none⟩ = some (.int .i64 (ta.1).id.gen) := cell_row X2.out 3
          have x4 : World.cell? _ ⟨w.heap.size + 1, 4, none⟩ = some (.int .i64 (ta.1).comp) := cell_row X2.out 4
          have x5 : World.cell? _ ⟨w.heap.size + 1, 5, none⟩ = some (.slice none 0 0) := cell_row X2.out 5
          have xf0 := frozen_row X2.out 0
          have xf1 := frozen_row X2.out 1
          have xf2 := frozen_row X2.out 2
          have xf3 := frozen_row X2.out 3
          have xf4 := frozen_row X2.out 4
          have xf5 := frozen_row X2.out 5
          go_wp2_with fail
          clear x0 xf0 x1 xf1 x2 xf2 x3 xf3 x4 xf4 x5 xf5
          refine nm_calls (fun V3 hnm => ?_)
          have X3 := Lib.hid (show CmdIs V3 (w.heap.size + 1) { ta.1 with comp := pb.1 } (.slice none 0 0) by rw [hnm]; exact heap_setRow X2.out)
          have Y3 := Lib.hid (show CmdIs V3 w.heap.size zeroC (.slice none 0 0) by rw [hnm]; exact row_other Y2.out (by omega))
          have O3 := Lib.hid (show Only (fun b => b = B) w V3 by rw [hnm]; exact O2.out.late (by omega))
          have R3 := Lib.hid (show Rdr Q B V3 c pb.2 from R2.out.keep (by rw [hnm]; exact Below.heap_setCell _ _ _ _ (by dsimp only; omega)) (fun b hq _ => ⟨hq, by rw [hnm]; exact Below.heap_setCell _ _ _ _ (by have := HQ.out b hq; dsimp only; omega)⟩) R2.out.1)
          clear hnm
          refine ((HWD.out V3 R3.out).1).mono ?_
          have HWL := Lib.hid (HWD.out V3 R3.out).2
          rintro e w4 ⟨rfl, h4, o4⟩
          have R4 := Lib.hid h4
          have X4 := Lib.hid (show CmdIs w4 (w.heap.size + 1) { ta.1 with comp := pb.1 } (.slice none 0 0) from row_only o4 X3.out (by omega))
          have Y4 := Lib.hid (show CmdIs w4 w.heap.size zeroC (.slice none 0 0) from row_only o4 Y3.out (by omega))
          have O4 := Lib.hid (O3.out.trans o4)
          clear h4 o4
          go_wp2_with fail
          refine (HOU.out _ HWL.out).mono ?_
          rintro e w5 ⟨hb, v5, rfl, hv5⟩
          obtain ⟨A5, c5, rfl, hs5⟩ := Rep.val_sl hv5
          have R5 := Lib.hid (R4.out.later hb)
          have X5 := Lib.hid (show CmdIs w5 (w.heap.size + 1) { ta.1 with comp := pb.1 } (.slice none 0 0) from row_call hb X4.out)
          have Y5 := Lib.hid (show CmdIs w5 w.heap.size zeroC (.slice none 0 0) from row_call hb Y4.out)
          have O5 := Lib.hid (O4.out.trans (Only.of_below hb))
          have S5 := Lib.hid hs5
          have Z4 := Lib.hid (show w.heap.size + 2 ≤ w4.heap.size from cell_bound (o := 0) (cell_row X4.out 0))
          clear hb hv5 hs5
          have q6 := R5.out.c6
          have z6 := R5.out.f6
          have x0 : World.cell? _ ⟨w.heap.size + 1, 0, none⟩ = some (.int .i64 ({ ta.1 with comp := pb.1 }).kind) := cell_row X5.out 0
          have x1 : World.cell? _ ⟨w.heap.size + 1, 1, none⟩ = some (.bool ({ ta.1 with comp := pb.1 }).loc) := cell_row X5.out 1
          have x2 : World.cell? _ ⟨w.heap.size + 1, 2, none⟩ = some (.int .i64 ({ ta.1 with comp := pb.1 }).id.index) := cell_row X5.out 2
          have x3 : World.cell? _ ⟨w.heap.size + 1, 3, none⟩ = some (.int .i64 ({ ta.1 with comp := pb.1 }).id.gen) := cell_row X5.out 3
          have x4 : World.cell? _ ⟨w.heap.size + 1, 4, none⟩ = some (.int .i64 ({ ta.1 with comp := pb.1 }).comp) := cell_row X5.out 4
          have x5 : World.cell? _ ⟨w.heap.size + 1, 5, none⟩ = some (.slice none 0 0) := cell_row X5.out 5
          have xf0 := frozen_row X5.out 0
          have xf1 := frozen_row X5.out 1
          have xf2 := frozen_row X5.out 2
          have xf3 := frozen_row X5.out 3
          have xf4 := frozen_row X5.out 4
          have xf5 := frozen_row X5.out 5
          cases hbad : r3.bad <;> cases fl
          all_goals
            rw [hbad] at q6
            go_wp2_with (with_reducible refine stopLoad 29 5 rfl ?_)
            refine Lib.hid ?_
            clear q6 z6 x0 xf0 x1 xf1 x2 xf2 x3 xf3 x4 xf4 x5 xf5
            refine nm_list (fun V6 hnm => ?_)
            have X6 := Lib.hid (show CmdIs V6 (w.heap.size + 1) { ta.1 with comp := pb.1, data := dl } (.slice A5 dl.length c5) by rw [hnm]; exact row_other (heap_setRow X5.out) (by omega))
            have Y6 := Lib.hid (show CmdIs V6 w.heap.size zeroC (.slice none 0 0) by rw [hnm]; exact row_other (row_other Y5.out (by omega)) (by omega))
            have M6 := Lib.hid (show Rdr Q B (w5.setCell ⟨w.heap.size + 1, 5, none⟩ (.slice A5 dl.length c5)) c r3 from R5.out.keep (Below.heap_setCell _ _ _ _ (by dsimp only; omega)) (fun b hq _ => ⟨hq, Below.heap_setCell _ _ _ _ (by have := HQ.out b hq; dsimp only; omega)⟩) R5.out.1)
            have R6 := Lib.hid (show Rdr Q B V6 c ⟨r3.l, _⟩ by rw [hnm]; exact M6.out.put6 _)
            have O6 := Lib.hid (show Only (fun b => b = B) w V6 by rw [hnm]; exact (O5.out.late (by omega)).put rfl)
            have S6 := Lib.hid (show Rep.byte.Sl (fun b => w4.heap.size ≤ b) V6 A5 c5 dl from S5.out.keep (w := w5) (fun b hb _ => ⟨hb, by rw [hnm]; exact (Below.heap_setCell _ _ _ _ (by dsimp only; have := Z4.out; omega)).trans (Below.heap_setCell _ _ _ _ (by dsimp only; have := Z4.out; omega))⟩))
            clear hnm
            have x0 : World.cell? _ ⟨w.heap.size + 1, 0, none⟩ = some (.int .i64 ({ ta.1 with comp := pb.1, data := dl }).kind) := cell_row X6.out 0
            have x1 : World.cell? _ ⟨w.heap.size + 1, 1, none⟩ = some (.bool ({ ta.1 with comp := pb.1, data := dl }).loc) := cell_row X6.out 1
            have x2 : World.cell? _ ⟨w.heap.size + 1, 2, none⟩ = some (.int .i64 ({ ta.1 with comp := pb.1, data := dl }).id.index) := cell_row X6.out 2
            have x3 : World.cell? _ ⟨w.heap.size + 1, 3, none⟩ = some (.int .i64 ({ ta.1 with comp := pb.1, data := dl }).id.gen) := cell_row X6.out 3
            have x4 : World.cell? _ ⟨w.heap.size + 1, 4, none⟩ = some (.int .i64 ({ ta.1 with comp := pb.1, data := dl }).comp) := cell_row X6.out 4
            have x5 : World.cell? _ ⟨w.heap.size + 1, 5, none⟩ = some (.slice A5 dl.length c5) := cell_row X6.out 5
            have xf0 := frozen_row X6.out 0
            have xf1 := frozen_row X6.out 1
            have xf2 := frozen_row X6.out 2
            have xf3 := frozen_row X6.out 3
            have xf4 := frozen_row X6.out 4
            have xf5 := frozen_row X6.out 5
            have y0 : World.cell? _ ⟨w.heap.size, 0, none⟩ = some (.int .i64 (zeroC).kind) := cell_row Y6.out 0
            have y1 : World.cell? _ ⟨w.heap.size, 1, none⟩ = some (.bool (zeroC).loc) := cell_row Y6.out 1
            have y2 : World.cell? _ ⟨w.heap.size, 2, none⟩ = some (.int .i64 (zeroC).id.index) := cell_row Y6.out 2
            have y3 : World.cell? _ ⟨w.heap.size, 3, none⟩ = some (.int .i64 (zeroC).id.gen) := cell_row Y6.out 3
            have y4 : World.cell? _ ⟨w.heap.size, 4, none⟩ = some (.int .i64 (zeroC).comp) := cell_row Y6.out 4
            have y5 : World.cell? _ ⟨w.heap.size, 5, none⟩ = some (.slice none 0 0) := cell_row Y6.out 5
            have yf0 := frozen_row Y6.out 0
            have yf1 := frozen_row Y6.out 1
            have yf2 := frozen_row Y6.out 2
            have yf3 := frozen_row Y6.out 3
            have yf4 := frozen_row Y6.out 4
            have yf5 := frozen_row Y6.out 5
            go_wp2_with fail
            refine nm_post (fun W hnm => ?_)
            have RY := Lib.hid (show W.heap[w.heap.size]? = some (.cells (cmdRow ({ ta.1 with comp := pb.1, data := dl }) (.slice A5 dl.length c5)) 29 (0, 0)) by rw [hnm]; exact heap_setRow (heap_setRow (heap_setRow (heap_setRow (heap_setRow (heap_setRow Y6.out))))))
            have KY := Lib.hid (show ∀ b, b ≠ w.heap.size → W.heap[b]? = V6.heap[b]? from fun b hb => by rw [hnm]; exact (Below.heap_setCell _ _ _ _ hb).trans ((Below.heap_setCell _ _ _ _ hb).trans ((Below.heap_setCell _ _ _ _ hb).trans ((Below.heap_setCell _ _ _ _ hb).trans ((Below.heap_setCell _ _ _ _ hb).trans (Below.heap_setCell _ _ _ _ hb))))))
            have RR := Lib.hid (R6.out.keep (KY.out B (by omega)) (fun b hq _ => ⟨hq, KY.out b (by have := HQ.out b hq; omega)⟩) R6.out.1)
            have OO := Lib.hid (show Only (fun b => b = B) w W by rw [hnm]; exact ((((((O6.out.late (Nat.le_refl _)).late (Nat.le_refl _)).late (Nat.le_refl _)).late (Nat.le_refl _)).late (Nat.le_refl _)).late (Nat.le_refl _)))
            clear hnm x0 xf0 x1 xf1 x2 xf2 x3 xf3 x4 xf4 x5 xf5 y0 yf0 y1 yf1 y2 yf2 y3 yf3 y4 yf4 y5 yf5
            have y0 : World.cell? _ ⟨w.heap.size, 0, none⟩ = some (.int .i64 ({ ta.1 with comp := pb.1, data := dl }).kind) := cell_row RY.out 0
            have y1 : World.cell? _ ⟨w.heap.size, 1, none⟩ = some (.bool ({ ta.1 with comp := pb.1, data := dl }).loc) := cell_row RY.out 1
            have y2 : World.cell? _ ⟨w.heap.size, 2, none⟩ = some (.int .i64 ({ ta.1 with comp := pb.1, data := dl }).id.index) := cell_row RY.out 2
            have y3 : World.cell? _ ⟨w.heap.size, 3, none⟩ = some (.int .i64 ({ ta.1 with comp := pb.1, data := dl }).id.gen) := cell_row RY.out 3
            have y4 : World.cell? _ ⟨w.heap.size, 4, none⟩ = some (.int .i64 ({ ta.1 with comp := pb.1, data := dl }).comp) := cell_row RY.out 4
            have y5 : World.cell? _ ⟨w.heap.size, 5, none⟩ = some (.slice A5 dl.length c5) := cell_row RY.out 5
            refine ⟨rfl, .agg #[.int .i64 ({ ta.1 with comp := pb.1, data := dl }).kind, .bool ({ ta.1 with comp := pb.1, data := dl }).loc, .int .i64 ({ ta.1 with comp := pb.1, data := dl }).id.index, .int .i64 ({ ta.1 with comp := pb.1, data := dl }).id.gen, .int .i64 ({ ta.1 with comp := pb.1, data := dl }).comp, .slice A5 dl.length c5], by simp only [results, hfr]; go_simp, ?_⟩
            clear y0 y1 y2 y3 y4 y5
            have S7 := Lib.hid (S6.out.keep (Q' := fun b => w.heap.size ≤ b) (fun b hb _ => ⟨by have := Z4.out; omega, KY.out b (by have := Z4.out; omega)⟩))
            exact ⟨_, rfl, rCmd_agg (x := { ta.1 with comp := pb.1, data := dl }) (by show (Lit.int .i64 ta.1.kind).wf = true; rw [HI.out.2.2.1]; decide) (wf_in HI.out.1) (wf_in HI.out.2.1) (wf_in HPI.out) S7.out, by first | exact RR.out | (rw [hbad]; exact RR.out), OO.out⟩
        · rw [if_neg hs3]
          have b3 : (s == [115, 101, 116]) = false := by simpa [wSet] using hs3
          have x0 : World.cell? _ ⟨w.heap.size + 1, 0, none⟩ = some (.int .i64 (zeroC).kind) := cell_row X0.out 0
          have x1 : World.cell? _ ⟨w.heap.size + 1, 1, none⟩ = some (.bool (zeroC).loc) := cell_row X0.out 1
          have x2 : World.cell? _ ⟨w.heap.size + 1, 2, none⟩ = some (.int .i64 (zeroC).id.index) := cell_row X0.out 2
          have x3 : World.cell? _ ⟨w.heap.size + 1, 3, none⟩ = some (.int .i64 (zeroC).id.gen) := cell_row X0.out 3
          have x4 : World.cell? _ ⟨w.heap.size + 1, 4, none⟩ = some (.int .i64 (zeroC).comp) := cell_row X0.out 4
          have x5 : World.cell? _ ⟨w.heap.size + 1, 5, none⟩ = some (.slice none 0 0) := cell_row X0.out 5
          have xf0 := frozen_row X0.out 0
          have xf1 := frozen_row X0.out 1
          have xf2 := frozen_row X0.out 2
          have xf3 := frozen_row X0.out 3
          have xf4 := frozen_row X0.out 4
          have xf5 := frozen_row X0.out 5
          have y0 : World.cell? _ ⟨w.heap.size, 0, none⟩ = some (.int .i64 (zeroC).kind) := cell_row Y0.out 0
          have y1 : World.cell? _ ⟨w.heap.size, 1, none⟩ = some (.bool (zeroC).loc) := cell_row Y0.out 1
          have y2 : World.cell? _ ⟨w.heap.size, 2, none⟩ = some (.int .i64 (zeroC).id.index) := cell_row Y0.out 2
          have y3 : World.cell? _ ⟨w.heap.size, 3, none⟩ = some (.int .i64 (zeroC).id.gen) := cell_row Y0.out 3
          have y4 : World.cell? _ ⟨w.heap.size, 4, none⟩ = some (.int .i64 (zeroC).comp) := cell_row Y0.out 4
          have y5 : World.cell? _ ⟨w.heap.size, 5, none⟩ = some (.slice none 0 0) := cell_row Y0.out 5
          have yf0 := frozen_row Y0.out 0
          have yf1 := frozen_row Y0.out 1
          have yf2 := frozen_row Y0.out 2
          have yf3 := frozen_row Y0.out 3
          have yf4 := frozen_row Y0.out 4
          have yf5 := frozen_row Y0.out 5
          have q6 := HR0.out.c6
          have z6 := HR0.out.f6
          go_enter Tryz.func54, Tryz.ntmps54
          go_wp2_with (with_reducible refine stopLoad 29 5 rfl ?_)
          try rw [hW0]
          clear hW0
          refine Lib.hid ?_
          clear q6 z6 x0 xf0 x1 xf1 x2 xf2 x3 xf3 x4 xf4 x5 xf5 y0 yf0 y1 yf1 y2 yf2 y3 yf3 y4 yf4 y5 yf5
          refine nm_list (fun V6 hnm => ?_)
          have X6 := Lib.hid (show CmdIs V6 (w.heap.size + 1) zeroC (.slice none 0 0) by rw [hnm]; exact row_other X0.out (by omega))
          have Y6 := Lib.hid (show CmdIs V6 w.heap.size zeroC (.slice none 0 0) by rw [hnm]; exact row_other Y0.out (by omega))
          have R6 := Lib.hid (show Rdr Q B V6 c ⟨r.l, true⟩ by rw [hnm]; exact HR0.out.put6 true)
          have O6 := Lib.hid (show Only (fun b => b = B) w V6 by rw [hnm]; exact O0.out.put rfl)
          clear hnm
          have x0 : World.cell? _ ⟨w.heap.size + 1, 0, none⟩ = some (.int .i64 (zeroC).kind) := cell_row X6.out 0
          have x1 : World.cell? _ ⟨w.heap.size + 1, 1, none⟩ = some (.bool (zeroC).loc) := cell_row X6.out 1
          have x2 : World.cell? _ ⟨w.heap.size + 1, 2, none⟩ = some (.int .i64 (zeroC).id.index) := cell_row X6.out 2
          have x3 : World.cell? _ ⟨w.heap.size + 1, 3, none⟩ = some (.int .i64 (zeroC).id.gen) := cell_row X6.out 3
          have x4 : World.cell? _ ⟨w.heap.size + 1, 4, none⟩ = some (.int .i64 (zeroC).comp) := cell_row X6.out 4
          have x5 : World.cell? _ ⟨w.heap.size + 1, 5, none⟩ = some (.slice none 0 0) := cell_row X6.out 5
          have xf0 := frozen_row X6.out 0
          have xf1 := frozen_row X6.out 1
          have xf2 := frozen_row X6.out 2
          have xf3 := frozen_row X6.out 3
          have xf4 := frozen_row X6.out 4
          have xf5 := frozen_row X6.out 5
          have y0 : World.cell? _ ⟨w.heap.size, 0, none⟩ = some (.int .i64 (zeroC).kind) := cell_row Y6.out 0
          have y1 : World.cell? _ ⟨w.heap.size, 1, none⟩ = some (.bool (zeroC).loc) := cell_row Y6.out 1
          have y2 : World.cell? _ ⟨w.heap.size, 2, none⟩ = some (.int .i64 (zeroC).id.index) := cell_row Y6.out 2
          have y3 : World.cell? _ ⟨w.heap.size, 3, none⟩ = some (.int .i64 (zeroC).id.gen) := cell_row Y6.out 3
          have y4 : World.cell? _ ⟨w.heap.size, 4, none⟩ = some (.int .i64 (zeroC).comp) := cell_row Y6.out 4
          have y5 : World.cell? _ ⟨w.heap.size, 5, none⟩ = some (.slice none 0 0) := cell_row Y6.out 5
          have yf0 := frozen_row Y6.out 0
          have yf1 := frozen_row Y6.out 1
          have yf2 := frozen_row Y6.out 2
          have yf3 := frozen_row Y6.out 3
          have yf4 := frozen_row Y6.out 4
          have yf5 := frozen_row Y6.out 5
          go_wp2_with fail
          refine nm_post (fun W hnm => ?_)
          have RY := Lib.hid (show W.heap[w.heap.size]? = some (.cells (cmdRow (zeroC) (.slice none 0 0)) 29 (0, 0)) by rw [hnm]; exact heap_setRow (heap_setRow (heap_setRow (heap_setRow (heap_setRow (heap_setRow Y6.out))))))
          have KY := Lib.hid (show ∀ b, b ≠ w.heap.size → W.heap[b]? = V6.heap[b]? from fun b hb => by rw [hnm]; exact (Below.heap_setCell _ _ _ _ hb).trans ((Below.heap_setCell _ _ _ _ hb).trans ((Below.heap_setCell _ _ _ _ hb).trans ((Below.heap_setCell _ _ _ _ hb).trans ((Below.heap_setCell _ _ _ _ hb).trans (Below.heap_setCell _ _ _ _ hb))))))
          have RR := Lib.hid (R6.out.keep (KY.out B (by omega)) (fun b hq _ => ⟨hq, KY.out b (by have := HQ.out b hq; omega)⟩) R6.out.1)
          have OO := Lib.hid (show Only (fun b => b = B) w W by rw [hnm]; exact ((((((O6.out.late (Nat.le_refl _)).late (Nat.le_refl _)).late (Nat.le_refl _)).late (Nat.le_refl _)).late (Nat.le_refl _)).late (Nat.le_refl _)))
          clear hnm x0 xf0 x1 xf1 x2 xf2 x3 xf3 x4 xf4 x5 xf5 y0 yf0 y1 yf1 y2 yf2 y3 yf3 y4 yf4 y5 yf5
          have y0 : World.cell? _ ⟨w.heap.size, 0, none⟩ = some (.int .i64 (zeroC).kind) := cell_row RY.out 0
          have y1 : World.cell? _ ⟨w.heap.size, 1, none⟩ = some (.bool (zeroC).loc) := cell_row RY.out 1
          have y2 : World.cell? _ ⟨w.heap.size, 2, none⟩ = some (.int .i64 (zeroC).id.index) := cell_row RY.out 2
          have y3 : World.cell? _ ⟨w.heap.size, 3, none⟩ = some (.int .i64 (zeroC).id.gen) := cell_row RY.out 3
          have y4 : World.cell? _ ⟨w.heap.size, 4, none⟩ = some (.int .i64 (zeroC).comp) := cell_row RY.out 4
          have y5 : World.cell? _ ⟨w.heap.size, 5, none⟩ = some (.slice none 0 0) := cell_row RY.out 5
          refine ⟨rfl, .agg #[.int .i64 (zeroC).kind, .bool (zeroC).loc, .int .i64 (zeroC).id.index, .int .i64 (zeroC).id.gen, .int .i64 (zeroC).comp, .slice none 0 0], by simp only [results, hfr]; go_simp, ?_⟩
          clear y0 y1 y2 y3 y4 y5
          exact ⟨_, rfl, cmd_bare (x := zeroC) (by decide) (by decide) (by decide) (by decide) rfl, RR.out, OO.out⟩
end Go.Proofs.YtejibngkeaamkaaGreatDoor
namespace Go.Proofs.YtejibngkeaamkaaGreatDoor
open Go.RowKit

/-- An act in a block: of one kind, with fates and fuses, all else zero. -/
def crashRow (k : Int) (F U : Value) : Array Value := #[.int .i64 k, .int .i64 0, .bool false, .int .i64 0, .int .i64 0, .int .i64 0, .slice none 0 0, .int .i64 0, .int .i64 0, .int .i64 0, F, U]
def CrashIs (W : World) (X : Nat) (k : Int) (F U : Value) : Prop := W.heap[X]? = some (.cells (crashRow k F U) 35 (0, 0))
theorem infoFate : (Tryz.prog.info? 65).map (fun i => (i.zero, i.size, i.bytes)) = some (some (.agg #[.int .i64 0, .int .i64 0]), 2, 16) := by kernel_rfl
theorem infoIntA : (Tryz.prog.info? 3).map (fun i => (i.zero, i.size, i.bytes)) = some (some (.int .i64 0), 1, 8) := by kernel_rfl
/-- How many words a reader's block says that are left. -/
def wordsAt (W : World) (B : Nat) : Nat := match W.cell? ⟨B, 5, none⟩ with
  | some (.slice _ n _) => n
  | _ => 0
theorem Rdr.words {Q : Nat → Prop} {B : Nat} {W : World} {c : DConf} {r : Wds} (h : Rdr Q B W c r) : wordsAt W B = r.l.length := by
  obtain ⟨_, A, cap, A1, c1, h1, _⟩ := h
  unfold wordsAt
  have e : W.cell? ⟨B, 5, none⟩ = some (.slice A1 r.l.length c1) := cell_row h1 5
  rw [e]
theorem Rdr.c5 {Q : Nat → Prop} {B : Nat} {W : World} {c : DConf} {r : Wds} (h : Rdr Q B W c r) : ∃ A1 c1, W.cell? ⟨B, 5, none⟩ = some (.slice A1 r.l.length c1) ∧ r.l.length ≤ c1 ∧ c1 ≤ maxLen ∧ ∀ x l, r.l = x :: l → ∃ b off, A1 = some ⟨b, off, none⟩ ∧ W.cell? ⟨b, off, none⟩ = some (.string ⟨x.toArray⟩) ∧ x.length ≤ 1000000 := by
  obtain ⟨_, A, cap, A1, c1, h1, _, h3, h4⟩ := h
  refine ⟨A1, c1, cell_row h1 5, h3.1, h3.2.1, fun x l hl => ?_⟩
  obtain ⟨b, off, e1, _, e2, _⟩ := text_at h3.2.2 (i := 0) (x := x) (by rw [hl]; rfl)
  exact ⟨b, off, e1, by simpa using e2, h4 x (by rw [hl]; simp)⟩
/-- What crash answers. -/
def CrashAns (Q : Nat → Prop) (B X : Nat) (w : World) (c : DConf) (k : Int) (fs : List DFate) (ns : List Int) (r : Wds) (e : Ending) (W : World) : Prop := e = .returned (.tuple #[]) ∧ Rdr Q B W c r ∧ Only (fun b => b = B ∨ b = X) w W ∧
  ∃ F U, CrashIs W X k F U ∧ rFate.acc 65 w.heap.size (fun _ => False) W F fs ∧ (Rep.int .i64).acc 3 w.heap.size (fun _ => False) W U ns

set_option maxRecDepth 100000 in
set_option maxHeartbeats 8000000 in
/-- reader.crash -/
theorem ccrash_calls {Q : Nat → Prop} {B X : Nat} {w : World} {c : DConf} {r : Wds} {kd : Int} (h : Rdr Q B w c r) (hx : CrashIs w X kd (.slice none 0 0) (.slice none 0 0)) (hXB : X ≠ B) (ht : Tabs w) (hB8 : 8 ≤ B) (hX8 : 8 ≤ X) (hQX : ∀ b, Q b → b ≠ X) (hQ : ∀ b, Q b → b < w.heap.size) (hl : r.l.length ≤ 1000000) :
    Calls Tryz.prog 53 #[.pointer (some ⟨B, 0, none⟩), .pointer (some ⟨X, 0, none⟩)] w (CrashAns Q B X w c kd r.crash.1.1 r.crash.1.2 r.crash.2) := by
  have hlt := h.lt
  have hltX : X < w.heap.size := (Array.getElem?_eq_some_iff.1 hx).1
  have hwb := ht.big
  have HQ := Lib.hid hQ
  have HQX := Lib.hid hQX
  have HR := Lib.hid h
  have HX := Lib.hid hx
  have HT := Lib.hid ht
  have HL := Lib.hid hl
  have HC : r.crash = (((r.fates []).1, ((r.fates []).2.skip.fuses []).1), ((r.fates []).2.skip.fuses []).2) := rfl
  rw [HC]
  clear h hx ht hQ hQX hl HC
  go_enter Tryz.func53, Tryz.ntmps53
  go_wp2_with fail
  go_loopw [] (fun wr => ∃ (s : Wds) (fs : List DFate) (F : Value), Hid (Rdr Q B wr c s) ∧ Hid (CrashIs wr X kd F (.slice none 0 0)) ∧ Hid (rFate.acc 65 w.heap.size (fun _ => False) wr F fs) ∧ Hid (Only (fun b => b = B ∨ b = X) w wr) ∧ Hid (r.fates [] = s.fates fs) ∧ Hid (s.l.length + fs.length ≤ 1000000)) (fun wr => wordsAt wr B)
  case atStart => exact ⟨r, [], _, HR, HX, Lib.hid Rep.acc_nil, Lib.hid (Only.refl _ _), Lib.hid rfl, Lib.hid (by simpa using HL.out)⟩
  case round =>
    obtain ⟨s, fs, F, R1, X1, F1, O1, E1, L1⟩ := hrel
    have T1 := Lib.hid (HT.out.only O1.out (by rintro b (rfl | rfl) <;> omega))
    have HM := Lib.hid R1.out.words
    have zz1 := O1.out.size
    obtain ⟨A1, c1, q5, hc1, hc2, hq⟩ := R1.out.c5
    have HW := Lib.hid hq
    clear hq
    unfold maxLen at hc2
    rcases hsl : s.l with _ | ⟨x, l⟩
    · rw [hsl] at q5
      simp only [List.length_nil] at q5
      have HEX := Lib.hid (show s.fates fs = (fs, s) by obtain ⟨sl, sb⟩ := s; simp only at hsl; subst hsl; simp [Wds.fates])
      have HSK := Lib.hid (show s.skip = s by unfold Wds.skip; rw [hsl])
      have HLS := Lib.hid (show s.l.length + ([] : List Int).length ≤ 1000000 by rw [hsl]; simp)
      clear hsl
      go_wp2_with fail
      go_loopw [] (fun wz => ∃ (t : Wds) (ns : List Int) (U : Value), Hid (Rdr Q B wz c t) ∧ Hid (CrashIs wz X kd F U) ∧ Hid (rFate.acc 65 w.heap.size (fun _ => False) wz F fs) ∧ Hid ((Rep.int .i64).acc 3 w.heap.size (fun _ => False) wz U ns) ∧ Hid (∀ k g, (F).ownBlock = some k → U.ownBlock = some g → k ≠ g) ∧ Hid (Only (fun b => b = B ∨ b = X) w wz) ∧ Hid (s.fuses [] = t.fuses ns) ∧ Hid (t.l.length + ns.length ≤ 1000000)) (fun wz => wordsAt wz B)
      case atStart => exact ⟨s, [], _, R1, X1, F1, Lib.hid Rep.acc_nil, Lib.hid (fun k g _ h => by cases h), O1, Lib.hid rfl, HLS⟩
      case round =>
        rename World => wz
        obtain ⟨t, ns, U, R3, X3, F3, U3, D3, O3, E3, L3⟩ := hrel
        have T3 := Lib.hid (HT.out.only O3.out (by rintro b (rfl | rfl) <;> omega))
        have HM3 := Lib.hid R3.out.words
        have zz3 := O3.out.size
        obtain ⟨A3, c3, p5, pc1, pc2, pq⟩ := R3.out.c5
        have HW3 := Lib.hid pq
        clear pq
        unfold maxLen at pc2
        rcases htl : t.l with _ | ⟨y, m⟩
        · rw [htl] at p5
          have HE := Lib.hid (show t.fuses ns = (ns, t) by obtain ⟨tl, tb⟩ := t; simp only at htl; subst htl; simp [Wds.fuses])
          simp only [List.length_nil] at p5
          have HTL := Lib.hid htl
          clear htl
          go_wp2_with fail
          go_end0
          refine ⟨rfl, ?_, O3.out, _, U, X3.out, ?_, ?_⟩
          · rw [E1.out, HEX.out]; simp only []; rw [HSK.out, E3.out, HE.out]; exact R3.out
          · rw [E1.out, HEX.out]; exact F3.out
          · rw [E1.out, HEX.out]; simp only []; rw [HSK.out, E3.out, HE.out]; exact U3.out
        · obtain ⟨b3, off3, rfl, e3, hy⟩ := HW3.out y m htl
          rw [htl] at p5 pc1
          simp only [List.length_cons] at p5 pc1
          have hz3 : ((m.length + 1 : Nat) : Int) = (m.length : Int) + 1 := by omega
          have HTL := Lib.hid htl
          have HEN := Lib.hid (show t.fuses ns = Wds.fuses ⟨m, t.bad || (numS y).isNone⟩ (ns ++ [(numS y).getD 0]) by obtain ⟨tl, tb⟩ := t; simp only at htl; subst htl; rw [Wds.fuses])
          have HL3 := Lib.hid (show m.length + ns.length + 1 ≤ 1000000 by have := L3.out; rw [htl] at this; simp at this; omega)
          have HMM := Lib.hid (show wordsAt wz B = m.length + 1 by rw [HM3.out, htl]; rfl)
          have HWDC := Lib.hid (show Calls Tryz.prog 51 #[.pointer (some ⟨B, 0, none⟩)] wz.drew fun e W => e = .returned (.string ⟨y.toArray⟩) ∧ Rdr Q B W c ⟨m, t.bad⟩ ∧ Only (fun b => b = B) wz W by
            have hd : Rdr Q B wz.drew c t := R3.out.keep rfl (fun b hb _ => ⟨hb, rfl⟩) R3.out.1
            have hw : t.word = (y, ⟨m, t.bad⟩) := by unfold Wds.word; rw [htl]
            refine (word_calls hd).mono ?_
            rintro e W ⟨h1, h2, h3⟩
            rw [hw] at h1 h2
            exact ⟨h1, h2, ((Only.refl _ _).drw).trans h3⟩)
          generalize hml : m.length = ml at *
          have HML := Lib.hid hml
          clear hml htl
          go_wp2_with fail
          clear p5 e3
          refine wp_region_tail (S := fun W => Only (fun b => b = B) wz W) (T := [0, 10, 11, 12, 13]) (by kernel_rfl) ((Only.refl _ _).drw) (fun s0 => ?_)
          have HWD := HWDC
          obtain ⟨u0, hu0⟩ : ∃ V, V = wz.drew := ⟨_, rfl⟩
          rw [← hu0] at s0 HWD ⊢
          have t0 : Only (fun b => b = B) wz u0 := s0
          clear hu0 s0
          refine tk0 (i := 0) (v := .pointer (some ⟨X, 0, none⟩)) rfl (Or.inl ⟨by rfl, fun w' _ => by go_simp⟩) ?_
          go_simp
          refine tkTV (i := 1) (v := .pointer (some ⟨X, 0, none⟩)) rfl t0 ?_
          go_simp
          refine tkTV (i := 2) (v := .pointer (some ⟨X, 0, none⟩)) rfl t0 ?_
          go_simp
          refine tkTV (i := 3) (v := .pointer (some ⟨X, 11, none⟩)) rfl t0 ?_
          go_simp
          obtain ⟨AU, cU, rfl, hu1, hu2⟩ := Rep.acc_form U3.out
          unfold maxLen at hu2
          refine tkT (i := 4) (v := .slice AU ns.length cU) rfl (Or.inl ⟨by rfl, fun w' h => by have e : World.cell? w' ⟨X, 11, none⟩ = some (.slice AU ns.length cU) := cell_row (row_only (h : Only (fun b => b = B) wz w') X3.out (by exact hXB)) 11; go_simp⟩) t0 ?_
          go_simp
          refine tkTV (i := 5) (v := .pointer (some ⟨B, 0, none⟩)) rfl t0 ?_
          go_simp
          refine tkTV (i := 6) (v := .pointer (some ⟨B, 0, none⟩)) rfl t0 ?_
          go_simp
          refine wpAnyT_one (i := 7) rfl (by kernel_rfl) rfl (fun K hK => ?_)
          go_simp
          refine (HWD.out).mono ?_
          rintro e u1 ⟨rfl, hr1, ho1⟩
          have t1 : Only (fun b => b = B) wz u1 := ho1
          have RU1 := Lib.hid hr1
          refine hK _ _ ⟨t1, ?_⟩
          clear hr1 ho1 hK K
          refine wpAnyT_one (i := 8) rfl (by kernel_rfl) rfl (fun K hK => ?_)
          go_simp
          refine (cnumr_calls RU1.out y (by omega) (T3.out.only t1 (by rintro b rfl; omega))).mono ?_
          rintro e u2 ⟨rfl, hr2, ho2⟩
          have t2 : Only (fun b => b = B) wz u2 := t1.trans ho2
          have RU2 := Lib.hid hr2
          have hni := numr_in ⟨m, t.bad⟩ y
          refine hK _ _ ⟨t2, ?_⟩
          clear hr2 ho2 hK K
          obtain ⟨nn, hnn⟩ : ∃ nn, (Wds.num ⟨m, t.bad⟩ y).1 = nn := ⟨_, rfl⟩
          rw [hnn] at hni ⊢
          have HNI := Lib.hid hni
          have HNN := Lib.hid hnn
          clear hnn hni
          have HX2 := Lib.hid (show CrashIs u2 X kd _ _ from row_only t2 X3.out (by exact hXB))
          have HZ2 := Lib.hid t2.size
          have HAU := Lib.hid (show (Rep.int .i64).acc 3 w.heap.size (fun _ => False) u2 (.slice AU ns.length cU) ns from Rep.acc_keep (fun b hb hl => t2.block b hl.lt (by rcases hb with h | h; exact absurd h id; have := (Rep.acc_own U3.out b h).1; omega)) (fun _ h _ => h) U3.out)
          have HBZ := Lib.hid (show w.heap.size ≤ u2.heap.size from Nat.le_trans zz3 t2.size)
          have HLN := Lib.hid (show ns.length + 1 ≤ maxLen ∧ (ns.length + 1) * 8 ≤ 140737488355328 by have := HL3.out; unfold maxLen; omega)
          refine wpAnyT_one (i := 9) rfl (by kernel_rfl) rfl (fun K hK => ?_)
          go_simp
          refine hK _ _ ⟨t2.alloc _, ?_⟩
          clear hK K
          refine wpAnyT_last (i := 10) rfl (by kernel_rfl) rfl (fun K hK => ?_)
          refine step_snoc2 (w := u2) rfl _ _ 33 rfl (.int .i64 0) 1 8 Tryz.underlying33 infoIntA rfl (by decide) rfl _ ns (by exact rfl) HAU.out nn (.int .i64 nn) ⟨_, rfl, rfl, wf_in HNI.out⟩ (by exact rfl) HLN.out.1 HLN.out.2 HBZ.out ?_
          intro v7 w7 hacc7 hgr7 hown7
          have hgb : ∀ b, b < u2.heap.size → (Value.slice AU ns.length cU).ownBlock ≠ some b → w7.heap[b]? = u2.heap[b]? := fun b hb hne => hgr7.block b hb (fun e => hne e.symm)
          have hnoX : (Value.slice AU ns.length cU).ownBlock ≠ some X := fun e => by have := (Rep.acc_own U3.out X e).1; omega
          have X7 := Lib.hid (show CrashIs w7 X kd _ _ from (hgb X (by have := HZ2.out; omega) hnoX).trans HX2.out)
          have R7 := Lib.hid (RU2.out.keep (hgb B (by have := HZ2.out; omega) (fun e => by have := (Rep.acc_own U3.out B e).1; omega)) (fun b hq _ => ⟨hq, hgb b (by have := HQ.out b hq; have := HZ2.out; omega) (fun e => by have := (Rep.acc_own U3.out b e).1; have := HQ.out b hq; omega)⟩) RU2.out.1)
          have FU2 := Lib.hid (show rFate.acc 65 w.heap.size (fun _ => False) u2 F fs from Rep.acc_keep (fun b hb hl => t2.block b hl.lt (by rcases hb with h | h; exact absurd h id; have := (Rep.acc_own F3.out b h).1; omega)) (fun _ h _ => h) F3.out)
          have F7 := Lib.hid (show rFate.acc 65 w.heap.size (fun _ => False) w7 F fs from Rep.acc_keep (fun b hb hl => hgb b hl.lt (fun e => by rcases hb with h | h; exact absurd h id; exact D3.out b b h e rfl)) (fun _ h _ => h) FU2.out)
          have O7 := Lib.hid (show Only (fun b => b = B ∨ b = X) w w7 from ⟨hgr7.os.trans (t2.os.trans O3.out.os), hgr7.tape.trans (t2.tape.trans O3.out.tape), hgr7.output.trans (t2.output.trans O3.out.output), Nat.le_trans (Nat.le_trans zz3 t2.size) hgr7.size, fun b hl hf => (hgb b (by have := t2.size; omega) (fun e => by have := (Rep.acc_own U3.out b e).1; omega)).trans ((t2.block b (by omega) (fun e => hf (.inl e))).trans (O3.out.block b hl hf))⟩)
          have D7 := Lib.hid (show ∀ k g, (F).ownBlock = some k → v7.ownBlock = some g → k ≠ g from fun k g hk hg e => by
            rcases hown7 with h | h
            · exact D3.out k g hk (by rw [← h]; exact hg) e
            · have := (Rep.acc_own FU2.out k hk).2
              rw [h] at hg
              have := Option.some.inj hg
              omega)
          obtain ⟨A9, c9, rfl, _, _⟩ := Rep.acc_form hacc7
          rw [List.length_append, List.length_singleton] at hacc7 D7
          have HA7 := Lib.hid hacc7
          go_simp
          refine hK _ _ ?_
          clear hK K hacc7 hgr7 hown7 hgb hnoX
          refine tk0 (i := 11) (v := .pointer (some ⟨X, 0, none⟩)) rfl (Or.inl ⟨by rfl, fun w' _ => by go_simp⟩) ?_
          go_simp
          refine tk0 (i := 12) (v := .pointer (some ⟨X, 11, none⟩)) rfl (Or.inl ⟨by rfl, fun w' _ => by go_simp⟩) ?_
          go_simp
          refine wpAnyT_last (i := 13) rfl (by kernel_rfl) rfl (fun K hK => ?_)
          have x11 : World.cell? _ ⟨X, 11, none⟩ = some (.slice AU ns.length cU) := cell_row X7.out 11
          have xf11 := frozen_row X7.out 11
          go_simp
          refine hK _ _ ?_
          clear hK K x11 xf11
          refine nm_anyT (fun w8 hnm => ?_)
          have X8 := Lib.hid (show CrashIs w8 X kd _ (.slice A9 (ns.length + 1) c9) by rw [hnm]; exact heap_setRow X7.out)
          have R8 := Lib.hid (R7.out.keep (W' := w8) (by rw [hnm]; exact Below.heap_setCell _ _ _ _ (Ne.symm hXB)) (fun b hq _ => ⟨hq, by rw [hnm]; exact Below.heap_setCell _ _ _ _ (HQX.out b hq)⟩) R7.out.1)
          have A8 := Lib.hid (show (Rep.int .i64).acc 3 w.heap.size (fun _ => False) w8 (.slice A9 (ns.length + 1) c9) (ns ++ [nn]) from Rep.acc_keep (fun b hb _ => by rw [hnm]; exact Below.heap_setCell _ _ _ _ (by rcases hb with h | h; exact absurd h id; have := (Rep.acc_own HA7.out b h).1; dsimp only; omega)) (fun _ h _ => h) HA7.out)
          have F8 := Lib.hid (show rFate.acc 65 w.heap.size (fun _ => False) w8 F fs from Rep.acc_keep (fun b hb _ => by rw [hnm]; exact Below.heap_setCell _ _ _ _ (by rcases hb with h | h; exact absurd h id; have := (Rep.acc_own F7.out b h).1; dsimp only; omega)) (fun _ h _ => h) F7.out)
          have O8 := Lib.hid (show Only (fun b => b = B ∨ b = X) w w8 by rw [hnm]; exact O7.out.put (.inr rfl))
          clear hnm
          refine wpAnyT_done (by kernel_rfl) ?_ _
          go_wp2_with fail
          go_roundw
          case rel =>
            refine ⟨⟨m, t.bad || (numS y).isNone⟩, ns ++ [nn], _, R8, X8, F8, A8, D7, O8, Lib.hid ?_, Lib.hid ?_⟩
            · rw [E3.out, HEN.out, ← HNN.out]; rfl
            · have := HL3.out; have := HML.out; simp; omega
          case measure =>
            rw [R8.out.words, HMM.out]
            have := HML.out
            show m.length < ml + 1
            omega
    · obtain ⟨b1, off1, rfl, e1, hx1⟩ := HW.out x l hsl
      rw [hsl] at q5 hc1
      simp only [List.length_cons] at q5 hc1
      have hz1 : ((l.length + 1 : Nat) : Int) = (l.length : Int) + 1 := by omega
      have HL1 := Lib.hid (show l.length + fs.length + 1 ≤ 1000000 by have := L1.out; rw [hsl] at this; simp at this; omega)
      have HMM1 := Lib.hid (show wordsAt wr B = l.length + 1 by rw [HM.out, hsl]; rfl)
      have HWD1 := Lib.hid (show ∀ v, Rdr Q B v c s → Calls Tryz.prog 51 #[.pointer (some ⟨B, 0, none⟩)] v fun e W => e = .returned (.string ⟨x.toArray⟩) ∧ Rdr Q B W c ⟨l, s.bad⟩ ∧ Only (fun b => b = B) v W from fun v hv => by
        have hw : s.word = (x, ⟨l, s.bad⟩) := by unfold Wds.word; rw [hsl]
        have := word_calls hv
        rw [hw] at this
        exact this)
      have HSK := Lib.hid (show s.skip = ⟨l, s.bad⟩ by unfold Wds.skip; rw [hsl])
      by_cases hx47 : x = [47]
      · have HEX := Lib.hid (show s.fates fs = (fs, s) by obtain ⟨sl, sb⟩ := s; simp only at hsl; subst hsl; rw [Wds.fates, if_pos hx47])
        have b47 : (x == [47]) = true := by simp [hx47]
        clear hsl hx47
        generalize hll : l.length = ll at *
        have HLL := Lib.hid hll
        clear hll
        go_wp2_with fail
        refine ((HWD1.out _ R1.out)).mono ?_
        rintro e w2 ⟨rfl, hr2, ho2⟩
        have R2 := Lib.hid hr2
        have O2 := Lib.hid (O1.out.trans (ho2.wid (fun b h => .inl h)))
        have X2 := Lib.hid (show CrashIs w2 X kd _ _ from row_only ho2 X1.out (by exact hXB))
        have F2 := Lib.hid (show rFate.acc 65 w.heap.size (fun _ => False) w2 F fs from Rep.acc_keep (fun b hb hl => ho2.block b hl.lt (by rcases hb with h | h; exact absurd h id; have := (Rep.acc_own F1.out b h).1; omega)) (fun _ h _ => h) F1.out)
        have HLS := Lib.hid (show (⟨l, s.bad⟩ : Wds).l.length + ([] : List Int).length ≤ 1000000 by have := HL1.out; have := HLL.out; simp; omega)
        clear hr2 ho2 q5 e1
        go_wp2_with fail
        go_loopw [] (fun wz => ∃ (t : Wds) (ns : List Int) (U : Value), Hid (Rdr Q B wz c t) ∧ Hid (CrashIs wz X kd F U) ∧ Hid (rFate.acc 65 w.heap.size (fun _ => False) wz F fs) ∧ Hid ((Rep.int .i64).acc 3 w.heap.size (fun _ => False) wz U ns) ∧ Hid (∀ k g, (F).ownBlock = some k → U.ownBlock = some g → k ≠ g) ∧ Hid (Only (fun b => b = B ∨ b = X) w wz) ∧ Hid ((⟨l, s.bad⟩ : Wds).fuses [] = t.fuses ns) ∧ Hid (t.l.length + ns.length ≤ 1000000)) (fun wz => wordsAt wz B)
        case atStart => exact ⟨(⟨l, s.bad⟩ : Wds), [], _, R2, X2, F2, Lib.hid Rep.acc_nil, Lib.hid (fun k g _ h => by cases h), O2, Lib.hid rfl, HLS⟩
        case round =>
          rename World => wz
          obtain ⟨t, ns, U, R3, X3, F3, U3, D3, O3, E3, L3⟩ := hrel
          have T3 := Lib.hid (HT.out.only O3.out (by rintro b (rfl | rfl) <;> omega))
          have HM3 := Lib.hid R3.out.words
          have zz3 := O3.out.size
          obtain ⟨A3, c3, p5, pc1, pc2, pq⟩ := R3.out.c5
          have HW3 := Lib.hid pq
          clear pq
          unfold maxLen at pc2
          rcases htl : t.l with _ | ⟨y, m⟩
          · rw [htl] at p5
            have HE := Lib.hid (show t.fuses ns = (ns, t) by obtain ⟨tl, tb⟩ := t; simp only at htl; subst htl; simp [Wds.fuses])
            simp only [List.length_nil] at p5
            have HTL := Lib.hid htl
            clear htl
            go_wp2_with fail
            go_end0
            refine ⟨rfl, ?_, O3.out, _, U, X3.out, ?_, ?_⟩
            · rw [E1.out, HEX.out]; simp only []; rw [HSK.out, E3.out, HE.out]; exact R3.out
            · rw [E1.out, HEX.out]; exact F3.out
            · rw [E1.out, HEX.out]; simp only []; rw [HSK.out, E3.out, HE.out]; exact U3.out
          · obtain ⟨b3, off3, rfl, e3, hy⟩ := HW3.out y m htl
            rw [htl] at p5 pc1
            simp only [List.length_cons] at p5 pc1
            have hz3 : ((m.length + 1 : Nat) : Int) = (m.length : Int) + 1 := by omega
            have HTL := Lib.hid htl
            have HEN := Lib.hid (show t.fuses ns = Wds.fuses ⟨m, t.bad || (numS y).isNone⟩ (ns ++ [(numS y).getD 0]) by obtain ⟨tl, tb⟩ := t; simp only at htl; subst htl; rw [Wds.fuses])
            have HL3 := Lib.hid (show m.length + ns.length + 1 ≤ 1000000 by have := L3.out; rw [htl] at this; simp at this; omega)
            have HMM := Lib.hid (show wordsAt wz B = m.length + 1 by rw [HM3.out, htl]; rfl)
            have HWDC := Lib.hid (show Calls Tryz.prog 51 #[.pointer (some ⟨B, 0, none⟩)] wz.drew fun e W => e = .returned (.string ⟨y.toArray⟩) ∧ Rdr Q B W c ⟨m, t.bad⟩ ∧ Only (fun b => b = B) wz W by
              have hd : Rdr Q B wz.drew c t := R3.out.keep rfl (fun b hb _ => ⟨hb, rfl⟩) R3.out.1
              have hw : t.word = (y, ⟨m, t.bad⟩) := by unfold Wds.word; rw [htl]
              refine (word_calls hd).mono ?_
              rintro e W ⟨h1, h2, h3⟩
              rw [hw] at h1 h2
              exact ⟨h1, h2, ((Only.refl _ _).drw).trans h3⟩)
            generalize hml : m.length = ml at *
            have HML := Lib.hid hml
            clear hml htl
            go_wp2_with fail
            clear p5 e3
            refine wp_region_tail (S := fun W => Only (fun b => b = B) wz W) (T := [0, 10, 11, 12, 13]) (by kernel_rfl) ((Only.refl _ _).drw) (fun s0 => ?_)
            have HWD := HWDC
            obtain ⟨u0, hu0⟩ : ∃ V, V = wz.drew := ⟨_, rfl⟩
            rw [← hu0] at s0 HWD ⊢
            have t0 : Only (fun b => b = B) wz u0 := s0
            clear hu0 s0
            refine tk0 (i := 0) (v := .pointer (some ⟨X, 0, none⟩)) rfl (Or.inl ⟨by rfl, fun w' _ => by go_simp⟩) ?_
            go_simp
            refine tkTV (i := 1) (v := .pointer (some ⟨X, 0, none⟩)) rfl t0 ?_
            go_simp
            refine tkTV (i := 2) (v := .pointer (some ⟨X, 0, none⟩)) rfl t0 ?_
            go_simp
            refine tkTV (i := 3) (v := .pointer (some ⟨X, 11, none⟩)) rfl t0 ?_
            go_simp
            obtain ⟨AU, cU, rfl, hu1, hu2⟩ := Rep.acc_form U3.out
            unfold maxLen at hu2
            refine tkT (i := 4) (v := .slice AU ns.length cU) rfl (Or.inl ⟨by rfl, fun w' h => by have e : World.cell? w' ⟨X, 11, none⟩ = some (.slice AU ns.length cU) := cell_row (row_only (h : Only (fun b => b = B) wz w') X3.out (by exact hXB)) 11; go_simp⟩) t0 ?_
            go_simp
            refine tkTV (i := 5) (v := .pointer (some ⟨B, 0, none⟩)) rfl t0 ?_
            go_simp
            refine tkTV (i := 6) (v := .pointer (some ⟨B, 0, none⟩)) rfl t0 ?_
            go_simp
            refine wpAnyT_one (i := 7) rfl (by kernel_rfl) rfl (fun K hK => ?_)
            go_simp
            refine (HWD.out).mono ?_
            rintro e u1 ⟨rfl, hr1, ho1⟩
            have t1 : Only (fun b => b = B) wz u1 := ho1
            have RU1 := Lib.hid hr1
            refine hK _ _ ⟨t1, ?_⟩
            clear hr1 ho1 hK K
            refine wpAnyT_one (i := 8) rfl (by kernel_rfl) rfl (fun K hK => ?_)
            go_simp
            refine (cnumr_calls RU1.out y (by omega) (T3.out.only t1 (by rintro b rfl; omega))).mono ?_
            rintro e u2 ⟨rfl, hr2, ho2⟩
            have t2 : Only (fun b => b = B) wz u2 := t1.trans ho2
            have RU2 := Lib.hid hr2
            have hni := numr_in ⟨m, t.bad⟩ y
            refine hK _ _ ⟨t2, ?_⟩
            clear hr2 ho2 hK K
            obtain ⟨nn, hnn⟩ : ∃ nn, (Wds.num ⟨m, t.bad⟩ y).1 = nn := ⟨_, rfl⟩
            rw [hnn] at hni ⊢
            have HNI := Lib.hid hni
            have HNN := Lib.hid hnn
            clear hnn hni
            have HX2 := Lib.hid (show CrashIs u2 X kd _ _ from row_only t2 X3.out (by exact hXB))
            have HZ2 := Lib.hid t2.size
            have HAU := Lib.hid (show (Rep.int .i64).acc 3 w.heap.size (fun _ => False) u2 (.slice AU ns.length cU) ns from Rep.acc_keep (fun b hb hl => t2.block b hl.lt (by rcases hb with h | h; exact absurd h id; have := (Rep.acc_own U3.out b h).1; omega)) (fun _ h _ => h) U3.out)
            have HBZ := Lib.hid (show w.heap.size ≤ u2.heap.size from Nat.le_trans zz3 t2.size)
            have HLN := Lib.hid (show ns.length + 1 ≤ maxLen ∧ (ns.length + 1) * 8 ≤ 140737488355328 by have := HL3.out; unfold maxLen; omega)
            refine wpAnyT_one (i := 9) rfl (by kernel_rfl) rfl (fun K hK => ?_)
            go_simp
            refine hK _ _ ⟨t2.alloc _, ?_⟩
            clear hK K
            refine wpAnyT_last (i := 10) rfl (by kernel_rfl) rfl (fun K hK => ?_)
            refine step_snoc2 (w := u2) rfl _ _ 33 rfl (.int .i64 0) 1 8 Tryz.underlying33 infoIntA rfl (by decide) rfl _ ns (by exact rfl) HAU.out nn (.int .i64 nn) ⟨_, rfl, rfl, wf_in HNI.out⟩ (by exact rfl) HLN.out.1 HLN.out.2 HBZ.out ?_
            intro v7 w7 hacc7 hgr7 hown7
            have hgb : ∀ b, b < u2.heap.size → (Value.slice AU ns.length cU).ownBlock ≠ some b → w7.heap[b]? = u2.heap[b]? := fun b hb hne => hgr7.block b hb (fun e => hne e.symm)
            have hnoX : (Value.slice AU ns.length cU).ownBlock ≠ some X := fun e => by have := (Rep.acc_own U3.out X e).1; omega
            have X7 := Lib.hid (show CrashIs w7 X kd _ _ from (hgb X (by have := HZ2.out; omega) hnoX).trans HX2.out)
            have R7 := Lib.hid (RU2.out.keep (hgb B (by have := HZ2.out; omega) (fun e => by have := (Rep.acc_own U3.out B e).1; omega)) (fun b hq _ => ⟨hq, hgb b (by have := HQ.out b hq; have := HZ2.out; omega) (fun e => by have := (Rep.acc_own U3.out b e).1; have := HQ.out b hq; omega)⟩) RU2.out.1)
            have FU2 := Lib.hid (show rFate.acc 65 w.heap.size (fun _ => False) u2 F fs from Rep.acc_keep (fun b hb hl => t2.block b hl.lt (by rcases hb with h | h; exact absurd h id; have := (Rep.acc_own F3.out b h).1; omega)) (fun _ h _ => h) F3.out)
            have F7 := Lib.hid (show rFate.acc 65 w.heap.size (fun _ => False) w7 F fs from Rep.acc_keep (fun b hb hl => hgb b hl.lt (fun e => by rcases hb with h | h; exact absurd h id; exact D3.out b b h e rfl)) (fun _ h _ => h) FU2.out)
            have O7 := Lib.hid (show Only (fun b => b = B ∨ b = X) w w7 from ⟨hgr7.os.trans (t2.os.trans O3.out.os), hgr7.tape.trans (t2.tape.trans O3.out.tape), hgr7.output.trans (t2.output.trans O3.out.output), Nat.le_trans (Nat.le_trans zz3 t2.size) hgr7.size, fun b hl hf => (hgb b (by have := t2.size; omega) (fun e => by have := (Rep.acc_own U3.out b e).1; omega)).trans ((t2.block b (by omega) (fun e => hf (.inl e))).trans (O3.out.block b hl hf))⟩)
            have D7 := Lib.hid (show ∀ k g, (F).ownBlock = some k → v7.ownBlock = some g → k ≠ g from fun k g hk hg e => by
              rcases hown7 with h | h
              · exact D3.out k g hk (by rw [← h]; exact hg) e
              · have := (Rep.acc_own FU2.out k hk).2
                rw [h] at hg
                have := Option.some.inj hg
                omega)
            obtain ⟨A9, c9, rfl, _, _⟩ := Rep.acc_form hacc7
            rw [List.length_append, List.length_singleton] at hacc7 D7
            have HA7 := Lib.hid hacc7
            go_simp
            refine hK _ _ ?_
            clear hK K hacc7 hgr7 hown7 hgb hnoX
            refine tk0 (i := 11) (v := .pointer (some ⟨X, 0, none⟩)) rfl (Or.inl ⟨by rfl, fun w' _ => by go_simp⟩) ?_
            go_simp
            refine tk0 (i := 12) (v := .pointer (some ⟨X, 11, none⟩)) rfl (Or.inl ⟨by rfl, fun w' _ => by go_simp⟩) ?_
            go_simp
            refine wpAnyT_last (i := 13) rfl (by kernel_rfl) rfl (fun K hK => ?_)
            have x11 : World.cell? _ ⟨X, 11, none⟩ = some (.slice AU ns.length cU) := cell_row X7.out 11
            have xf11 := frozen_row X7.out 11
            go_simp
            refine hK _ _ ?_
            clear hK K x11 xf11
            refine nm_anyT (fun w8 hnm => ?_)
            have X8 := Lib.hid (show CrashIs w8 X kd _ (.slice A9 (ns.length + 1) c9) by rw [hnm]; exact heap_setRow X7.out)
            have R8 := Lib.hid (R7.out.keep (W' := w8) (by rw [hnm]; exact Below.heap_setCell _ _ _ _ (Ne.symm hXB)) (fun b hq _ => ⟨hq, by rw [hnm]; exact Below.heap_setCell _ _ _ _ (HQX.out b hq)⟩) R7.out.1)
            have A8 := Lib.hid (show (Rep.int .i64).acc 3 w.heap.size (fun _ => False) w8 (.slice A9 (ns.length + 1) c9) (ns ++ [nn]) from Rep.acc_keep (fun b hb _ => by rw [hnm]; exact Below.heap_setCell _ _ _ _ (by rcases hb with h | h; exact absurd h id; have := (Rep.acc_own HA7.out b h).1; dsimp only; omega)) (fun _ h _ => h) HA7.out)
            have F8 := Lib.hid (show rFate.acc 65 w.heap.size (fun _ => False) w8 F fs from Rep.acc_keep (fun b hb _ => by rw [hnm]; exact Below.heap_setCell _ _ _ _ (by rcases hb with h | h; exact absurd h id; have := (Rep.acc_own F7.out b h).1; dsimp only; omega)) (fun _ h _ => h) F7.out)
            have O8 := Lib.hid (show Only (fun b => b = B ∨ b = X) w w8 by rw [hnm]; exact O7.out.put (.inr rfl))
            clear hnm
            refine wpAnyT_done (by kernel_rfl) ?_ _
            go_wp2_with fail
            go_roundw
            case rel =>
              refine ⟨⟨m, t.bad || (numS y).isNone⟩, ns ++ [nn], _, R8, X8, F8, A8, D7, O8, Lib.hid ?_, Lib.hid ?_⟩
              · rw [E3.out, HEN.out, ← HNN.out]; rfl
              · have := HL3.out; have := HML.out; simp; omega
            case measure =>
              rw [R8.out.words, HMM.out]
              have := HML.out
              show m.length < ml + 1
              omega
      · have HEN := Lib.hid (show s.fates fs = Wds.fates ⟨l, (s.bad || (numS (Lib.cut x [58]).1).isNone) || (numS (Lib.cut x [58]).2.1).isNone⟩ (fs ++ [⟨(numS (Lib.cut x [58]).1).getD 0, (numS (Lib.cut x [58]).2.1).getD 0⟩]) by obtain ⟨sl, sb⟩ := s; simp only at hsl; subst hsl; rw [Wds.fates, if_neg hx47])
        have b47 : (x == [47]) = false := by simpa using hx47
        obtain ⟨q, hq⟩ : ∃ q, Lib.cut x [58] = q := ⟨_, rfl⟩
        have HQC := Lib.hid hq
        have HQL := Lib.hid (cut_len x [58])
        rw [hq] at HQL HEN
        clear hsl hx47 hq
        generalize hll : l.length = ll at *
        have HLL := Lib.hid hll
        clear hll
        go_wp2_with fail
        refine ((HWD1.out _ R1.out)).mono ?_
        rintro e w2 ⟨rfl, hr2, ho2⟩
        have R2 := Lib.hid hr2
        have O2 := Lib.hid (O1.out.trans (ho2.wid (fun b h => .inl h)))
        have X2 := Lib.hid (show CrashIs w2 X kd F (.slice none 0 0) from row_only ho2 X1.out (by exact hXB))
        have F2 := Lib.hid (show rFate.acc 65 w.heap.size (fun _ => False) w2 F fs from Rep.acc_keep (fun b hb hl => ho2.block b hl.lt (by rcases hb with h | h; exact absurd h id; have := (Rep.acc_own F1.out b h).1; omega)) (fun _ h _ => h) F1.out)
        have T2 := Lib.hid (T1.out.only ho2 (by rintro b rfl; omega))
        clear hr2 ho2 q5 e1
        go_wp2_with fail
        obtain ⟨mx, hmx⟩ := T2.out.max
        refine (Tryz.strings_Cut ⟨x.toArray⟩ ⟨#[58]⟩ mx _ (by simp [ByteArray.size]; omega) hmx).mono ?_
        rintro e w3 ⟨rfl, n3, hw3⟩
        rw [show Lib.cut (ByteArray.mk x.toArray).data.toList (ByteArray.mk #[58]).data.toList = q by simpa using HQC.out]
        have hb3 : Below w2.heap.size w2 w3 := by rw [hw3]; exact below_drewN (Below.refl _ _) n3
        have R3 := Lib.hid (R2.out.later hb3)
        have O3 := Lib.hid (O2.out.trans (Only.of_below hb3))
        have X3 := Lib.hid (show CrashIs w3 X kd F (.slice none 0 0) from row_call hb3 X2.out)
        have F3 := Lib.hid (show rFate.acc 65 w.heap.size (fun _ => False) w3 F fs from Rep.acc_keep (fun b hb hl => hb3.block b hl.lt) (fun _ h _ => h) F2.out)
        have T3 := Lib.hid (T2.out.call hb3)
        have zz3 := O3.out.size
        clear hb3 hw3 hmx
        go_wp2_with fail
        refine wp_region_tail (S := fun W => Only (fun b => b = B) w3 W) (T := [0, 13, 14, 15, 16]) (by kernel_rfl) ((Only.refl _ _).drw) (fun s0 => ?_)
        obtain ⟨u0, hu0⟩ : ∃ V, V = w3.drew := ⟨_, rfl⟩
        have RU0 := Lib.hid (show Rdr Q B u0 c ⟨l, s.bad⟩ by rw [hu0]; exact R3.out.keep rfl (fun b hb _ => ⟨hb, rfl⟩) R3.out.1)
        rw [← hu0] at s0 ⊢
        have t0 : Only (fun b => b = B) w3 u0 := s0
        clear hu0 s0
        refine tk0 (i := 0) (v := .pointer (some ⟨X, 0, none⟩)) rfl (Or.inl ⟨by rfl, fun w' _ => by go_simp⟩) ?_
        go_simp
        refine tkTV (i := 1) (v := .pointer (some ⟨X, 0, none⟩)) rfl t0 ?_
        go_simp
        refine tkTV (i := 2) (v := .pointer (some ⟨X, 0, none⟩)) rfl t0 ?_
        go_simp
        refine tkTV (i := 3) (v := .pointer (some ⟨X, 10, none⟩)) rfl t0 ?_
        go_simp
        obtain ⟨AU, cU, rfl, hu1, hu2⟩ := Rep.acc_form F3.out
        unfold maxLen at hu2
        refine tkT (i := 4) (v := .slice AU fs.length cU) rfl (Or.inl ⟨by rfl, fun w' h => by have e : World.cell? w' ⟨X, 10, none⟩ = some (.slice AU fs.length cU) := cell_row (row_only (h : Only (fun b => b = B) w3 w') X3.out (by exact hXB)) 10; go_simp⟩) t0 ?_
        go_simp
        refine tkTV (i := 5) (v := .pointer (some ⟨B, 0, none⟩)) rfl t0 ?_
        go_simp
        refine tkTV (i := 6) (v := .string ⟨q.1.toArray⟩) rfl t0 ?_
        go_simp
        refine tkTV (i := 8) (v := .pointer (some ⟨B, 0, none⟩)) rfl t0 ?_
        go_simp
        refine tkTV (i := 9) (v := .string ⟨q.2.1.toArray⟩) rfl t0 ?_
        go_simp
        refine wpAnyT_one (i := 7) rfl (by kernel_rfl) rfl (fun K hK => ?_)
        go_simp
        refine (cnumr_calls RU0.out q.1 (by have := HQL.out.1; omega) (T3.out.only t0 (by rintro b rfl; omega))).mono ?_
        rintro e u1 ⟨rfl, hr1, ho1⟩
        have t1 : Only (fun b => b = B) w3 u1 := t0.trans ho1
        have RU1 := Lib.hid hr1
        have hni1 := numr_in ⟨l, s.bad⟩ q.1
        refine hK _ _ ⟨t1, ?_⟩
        clear hr1 ho1 hK K
        obtain ⟨n1, hn1⟩ : ∃ n1, (Wds.num ⟨l, s.bad⟩ q.1).1 = n1 := ⟨_, rfl⟩
        rw [hn1] at hni1 ⊢
        have HN1 := Lib.hid hn1
        have HI1 := Lib.hid hni1
        clear hn1 hni1
        refine wpAnyT_one (i := 10) rfl (by kernel_rfl) rfl (fun K hK => ?_)
        go_simp
        refine (cnumr_calls RU1.out q.2.1 (by have := HQL.out.2; omega) (T3.out.only t1 (by rintro b rfl; omega))).mono ?_
        rintro e u2 ⟨rfl, hr2, ho2⟩
        have t2 : Only (fun b => b = B) w3 u2 := t1.trans ho2
        have RU2 := Lib.hid hr2
        have hni2 := numr_in (Wds.num ⟨l, s.bad⟩ q.1).2 q.2.1
        refine hK _ _ ⟨t2, ?_⟩
        clear hr2 ho2 hK K
        obtain ⟨n2, hn2⟩ : ∃ n2, ((Wds.num ⟨l, s.bad⟩ q.1).2.num q.2.1).1 = n2 := ⟨_, rfl⟩
        rw [hn2] at hni2 ⊢
        have HN2 := Lib.hid hn2
        have HI2 := Lib.hid hni2
        clear hn2 hni2
        refine tkTV (i := 11) (v := .agg #[.int .i64 n1, .int .i64 n2]) rfl t2 ?_
        go_simp
        have HX2 := Lib.hid (show CrashIs u2 X kd (.slice AU fs.length cU) (.slice none 0 0) from row_only t2 X3.out (by exact hXB))
        have HZ2 := Lib.hid t2.size
        have HAU := Lib.hid (show rFate.acc 65 w.heap.size (fun _ => False) u2 (.slice AU fs.length cU) fs from Rep.acc_keep (fun b hb hl => t2.block b hl.lt (by rcases hb with h | h; exact absurd h id; have := (Rep.acc_own F3.out b h).1; omega)) (fun _ h _ => h) F3.out)
        have HBZ := Lib.hid (show w.heap.size ≤ u2.heap.size from Nat.le_trans zz3 t2.size)
        have HLN := Lib.hid (show fs.length + 1 ≤ maxLen ∧ (fs.length + 1) * 16 ≤ 140737488355328 by have := HL1.out; unfold maxLen; omega)
        refine wpAnyT_one (i := 12) rfl (by kernel_rfl) rfl (fun K hK => ?_)
        go_simp
        refine hK _ _ ⟨t2.alloc _, ?_⟩
        clear hK K
        refine wpAnyT_last (i := 13) rfl (by kernel_rfl) rfl (fun K hK => ?_)
        refine step_snoc2 (w := u2) rfl _ _ 32 rfl (.agg #[.int .i64 0, .int .i64 0]) 2 16 Tryz.underlying32 infoFate rfl (by decide) rfl _ fs (by exact rfl) HAU.out ⟨n1, n2⟩ (.agg #[.int .i64 n1, .int .i64 n2]) (rFate_agg (x := ⟨n1, n2⟩) (wf_in HI1.out) (wf_in HI2.out)) (by exact rfl) HLN.out.1 HLN.out.2 HBZ.out ?_
        intro v7 w7 hacc7 hgr7 hown7
        have hgb : ∀ b, b < u2.heap.size → (Value.slice AU fs.length cU).ownBlock ≠ some b → w7.heap[b]? = u2.heap[b]? := fun b hb hne => hgr7.block b hb (fun e => hne e.symm)
        have hnoX : (Value.slice AU fs.length cU).ownBlock ≠ some X := fun e => by have := (Rep.acc_own F3.out X e).1; omega
        have X7 := Lib.hid (show CrashIs w7 X kd (.slice AU fs.length cU) (.slice none 0 0) from (hgb X (by have := HZ2.out; omega) hnoX).trans HX2.out)
        have R7 := Lib.hid (RU2.out.keep (hgb B (by have := HZ2.out; omega) (fun e => by have := (Rep.acc_own F3.out B e).1; omega)) (fun b hq _ => ⟨hq, hgb b (by have := HQ.out b hq; have := HZ2.out; omega) (fun e => by have := (Rep.acc_own F3.out b e).1; have := HQ.out b hq; omega)⟩) RU2.out.1)
        have O7 := Lib.hid (show Only (fun b => b = B ∨ b = X) w w7 from ⟨hgr7.os.trans (t2.os.trans O3.out.os), hgr7.tape.trans (t2.tape.trans O3.out.tape), hgr7.output.trans (t2.output.trans O3.out.output), Nat.le_trans (Nat.le_trans zz3 t2.size) hgr7.size, fun b hl hf => (hgb b (by have := t2.size; omega) (fun e => by have := (Rep.acc_own F3.out b e).1; omega)).trans ((t2.block b (by omega) (fun e => hf (.inl e))).trans (O3.out.block b hl hf))⟩)
        obtain ⟨A9, c9, rfl, _, _⟩ := Rep.acc_form hacc7
        rw [List.length_append, List.length_singleton] at hacc7
        have HA7 := Lib.hid hacc7
        go_simp
        refine hK _ _ ?_
        clear hK K hacc7 hgr7 hown7 hgb hnoX
        refine tk0 (i := 14) (v := .pointer (some ⟨X, 0, none⟩)) rfl (Or.inl ⟨by rfl, fun w' _ => by go_simp⟩) ?_
        go_simp
        refine tk0 (i := 15) (v := .pointer (some ⟨X, 10, none⟩)) rfl (Or.inl ⟨by rfl, fun w' _ => by go_simp⟩) ?_
        go_simp
        refine wpAnyT_last (i := 16) rfl (by kernel_rfl) rfl (fun K hK => ?_)
        have x10 : World.cell? _ ⟨X, 10, none⟩ = some (.slice AU fs.length cU) := cell_row X7.out 10
        have xf10 := frozen_row X7.out 10
        go_simp
        refine hK _ _ ?_
        clear hK K x10 xf10
        refine nm_anyT (fun w8 hnm => ?_)
        have X8 := Lib.hid (show CrashIs w8 X kd (.slice A9 (fs.length + 1) c9) (.slice none 0 0) by rw [hnm]; exact heap_setRow X7.out)
        have R8 := Lib.hid (R7.out.keep (W' := w8) (by rw [hnm]; exact Below.heap_setCell _ _ _ _ (Ne.symm hXB)) (fun b hq _ => ⟨hq, by rw [hnm]; exact Below.heap_setCell _ _ _ _ (HQX.out b hq)⟩) R7.out.1)
        have A8 := Lib.hid (show rFate.acc 65 w.heap.size (fun _ => False) w8 (.slice A9 (fs.length + 1) c9) (fs ++ [⟨n1, n2⟩]) from Rep.acc_keep (fun b hb _ => by rw [hnm]; exact Below.heap_setCell _ _ _ _ (by rcases hb with h | h; exact absurd h id; have := (Rep.acc_own HA7.out b h).1; dsimp only; omega)) (fun _ h _ => h) HA7.out)
        have O8 := Lib.hid (show Only (fun b => b = B ∨ b = X) w w8 by rw [hnm]; exact O7.out.put (.inr rfl))
        clear hnm
        refine wpAnyT_done (by kernel_rfl) ?_ _
        go_wp2_with fail
        go_roundw
        case rel =>
          refine ⟨⟨l, (s.bad || (numS q.1).isNone) || (numS q.2.1).isNone⟩, fs ++ [⟨n1, n2⟩], _, R8, X8, A8, O8, Lib.hid ?_, Lib.hid ?_⟩
          · rw [E1.out, HEN.out, ← HN1.out, ← HN2.out]; rfl
          · have := HL1.out; have := HLL.out; simp; omega
        case measure =>
          rw [R8.out.words, HMM1.out]
          have := HLL.out
          show l.length < ll + 1
          omega
end Go.Proofs.YtejibngkeaamkaaGreatDoor
namespace Go.Proofs.YtejibngkeaamkaaGreatDoor
open Go.RowKit

theorem in_wf {n : Int} (h : (Lit.int .i64 n).wf = true) : In64 n := by
  simp [Lit.wf, IntKind.min, IntKind.max, IntKind.signed, IntKind.bits] at h
  unfold In64
  omega
theorem bytes_eq {b : ByteArray} {l : List UInt8} (h : b.data.toList = l) : (.string b : Value) = .string ⟨l.toArray⟩ := by rw [str_eq h]

set_option maxRecDepth 100000 in
set_option maxHeartbeats 2000000 in
/-- console.whom -/
theorem cwhom_calls {Q : Nat → Prop} {w : World} {v : Value} {x : DCmd} (hx : rCmd.val Q w v x) (ht : Tabs w) :
    Calls Tryz.prog 70 #[v] w fun e w' => e = .returned (.string ⟨(whomS x).toArray⟩) ∧ Below w.heap.size w w' := by
  have HT := Lib.hid ht
  obtain ⟨A, c, rfl, f0, f1, f2, f3, hs⟩ := rCmd_val hx
  have HF := Lib.hid (show In64 x.id.index ∧ In64 x.id.gen from ⟨in_wf f1, in_wf f2⟩)
  have hl1 : ((Lib.itoa x.id.index).length : Int) ≤ 20 := by have := (itoa_len HF.out.1).1; omega
  have hl2 : ((Lib.itoa x.id.gen).length : Int) ≤ 20 := by have := (itoa_len HF.out.2).1; omega
  clear hx hs f0 f1 f2 f3 ht
  cases hl : x.loc with
  | true =>
    have HW := Lib.hid (show whomS x = 36 :: Lib.itoa x.id.index by unfold whomS; rw [hl]; rfl)
    clear hl
    obtain ⟨W0, hW0⟩ : ∃ W, (w.alloc (.cells #[.int .i64 x.kind, .bool true, .int .i64 x.id.index, .int .i64 x.id.gen, .int .i64 x.comp, .slice A x.data.length c] 29)) = W := ⟨_, rfl⟩
    have hz0 : W0.heap.size = w.heap.size + 1 := by rw [← hW0]; simp
    have hb0 : Below w.heap.size w W0 := by rw [← hW0]; exact (Below.refl _ _).alloc (Nat.le_refl _) _
    have HZ := Lib.hid hz0
    have HB0 := Lib.hid hb0
    have R0_0 := Lib.hid (show W0.heap[w.heap.size]? = some (.cells #[.int .i64 x.kind, .bool true, .int .i64 x.id.index, .int .i64 x.id.gen, .int .i64 x.comp, .slice A x.data.length c] 29 (0, 0)) by rw [← hW0]; exact alloc_at rfl)
    have O0 := Lib.hid (Only.refl (Box w 1) W0)
    clear hz0 hb0
    have q0_0 := rw6 R0_0.out
    go_enter Tryz.func70, Tryz.ntmps70
    go_wp2_with fail
    try rw [hW0]
    clear hW0
    try go_wp2_with fail
    clear q0_0
    refine (itoa_calls HF.out.1 (HT.out.call (Only.fin HB0.out O0.out))).mono ?_
    rintro e w1 ⟨rfl, hb⟩
    have S1 := Lib.hid (show Only (Box w 1) W0 w1 from Only.of_below hb)
    have O1 := Lib.hid (O0.out.trans S1.out)
    have R0_1 := Lib.hid (row_call hb R0_0.out)
    clear hb
    go_wp2_with fail
    go_ret
    exact ⟨congrArg _ (bytes_eq (by rw [HW.out]; simp [ByteArray.data_append])), Only.fin HB0.out O1.out⟩
  | false =>
    have HW := Lib.hid (show whomS x = Lib.itoa x.id.index ++ 46 :: Lib.itoa x.id.gen by unfold whomS; rw [hl]; rfl)
    clear hl
    obtain ⟨W0, hW0⟩ : ∃ W, (w.alloc (.cells #[.int .i64 x.kind, .bool false, .int .i64 x.id.index, .int .i64 x.id.gen, .int .i64 x.comp, .slice A x.data.length c] 29)) = W := ⟨_, rfl⟩
    have hz0 : W0.heap.size = w.heap.size + 1 := by rw [← hW0]; simp
    have hb0 : Below w.heap.size w W0 := by rw [← hW0]; exact (Below.refl _ _).alloc (Nat.le_refl _) _
    have HZ := Lib.hid hz0
    have HB0 := Lib.hid hb0
    have R0_0 := Lib.hid (show W0.heap[w.heap.size]? = some (.cells #[.int .i64 x.kind, .bool false, .int .i64 x.id.index, .int .i64 x.id.gen, .int .i64 x.comp, .slice A x.data.length c] 29 (0, 0)) by rw [← hW0]; exact alloc_at rfl)
    have O0 := Lib.hid (Only.refl (Box w 1) W0)
    clear hz0 hb0
    have q0_0 := rw6 R0_0.out
    go_enter Tryz.func70, Tryz.ntmps70
    go_wp2_with fail
    try rw [hW0]
    clear hW0
    try go_wp2_with fail
    clear q0_0
    refine wp_region_held_drew (S := fun W => Below W0.heap.size W0 W) (by kernel_rfl) ((Below.refl _ _).drew) (fun s0 => ?_)
    obtain ⟨v1, hv0⟩ : ∃ V, V = W0.drew := ⟨_, rfl⟩
    rw [← hv0] at s0 ⊢
    have t1 : Below W0.heap.size W0 v1 := s0
    clear hv0 s0
    refine tkHV (i := 0) (v := .pointer (some ⟨w.heap.size, 2, none⟩)) rfl t1 ?_
    go_simp
    refine tkHV (i := 1) (v := .pointer (some ⟨w.heap.size, 2, none⟩)) rfl t1 ?_
    go_simp
    refine tkH (i := 2) (v := .int .i64 x.id.index) rfl (Or.inl ⟨by rfl, fun w' h => by have e := row_call (h : Below W0.heap.size W0 w') R0_0.out; have e0 := cell_row e 0; have e1 := cell_row e 1; have e2 := cell_row e 2; have e3 := cell_row e 3; have e4 := cell_row e 4; have e5 := cell_row e 5; go_simp⟩) t1 ?_
    go_simp
    refine tkHV (i := 5) (v := .pointer (some ⟨w.heap.size, 2, none⟩)) rfl t1 ?_
    go_simp
    refine tkHV (i := 6) (v := .pointer (some ⟨w.heap.size, 3, none⟩)) rfl t1 ?_
    go_simp
    refine tkH (i := 7) (v := .int .i64 x.id.gen) rfl (Or.inl ⟨by rfl, fun w' h => by have e := row_call (h : Below W0.heap.size W0 w') R0_0.out; have e0 := cell_row e 0; have e1 := cell_row e 1; have e2 := cell_row e 2; have e3 := cell_row e 3; have e4 := cell_row e 4; have e5 := cell_row e 5; go_simp⟩) t1 ?_
    go_simp
    refine wpAnyH_all (rs := [3]) (by kernel_rfl) (by simp) ?_
    intro i hi
    obtain rfl : i = 3 := by simpa using hi
    clear hi
    refine wpOp_step rfl (fun K hK => ?_)
    go_simp
    refine (itoa_calls HF.out.1 (HT.out.call ((Only.fin HB0.out O0.out).trans (Below.mono t1 (Only.fin HB0.out O0.out).size)))).mono ?_
    rintro e v2 ⟨rfl, hb⟩
    have t2 : Below W0.heap.size W0 v2 := Below.trans t1 (hb.mono (Below.size t1))
    refine hK _ _ ⟨t2, ?_⟩
    clear hb
    clear hK K
    refine tkHV (i := 4) (v := .string (⟨(Lib.itoa x.id.index).toArray⟩ ++ ⟨#[46]⟩)) rfl t2 ?_
    go_simp
    refine wpAnyH_all (rs := [8]) (by kernel_rfl) (by simp) ?_
    intro i hi
    obtain rfl : i = 8 := by simpa using hi
    clear hi
    refine wpOp_step rfl (fun K hK => ?_)
    go_simp
    refine (itoa_calls HF.out.2 (HT.out.call ((Only.fin HB0.out O0.out).trans (Below.mono t2 (Only.fin HB0.out O0.out).size)))).mono ?_
    rintro e v3 ⟨rfl, hb⟩
    have t3 : Below W0.heap.size W0 v3 := Below.trans t2 (hb.mono (Below.size t2))
    refine hK _ _ ⟨t3, ?_⟩
    clear hb
    clear hK K
    refine tkHV (i := 9) (v := .string ((⟨(Lib.itoa x.id.index).toArray⟩ ++ ⟨#[46]⟩) ++ ⟨(Lib.itoa x.id.gen).toArray⟩)) rfl t3 ?_
    go_simp
    refine tkHV (i := 10) (v := .string ((⟨(Lib.itoa x.id.index).toArray⟩ ++ ⟨#[46]⟩) ++ ⟨(Lib.itoa x.id.gen).toArray⟩)) rfl t3 ?_
    go_simp
    refine wpAnyH_done (by kernel_rfl) ?_ _
    have S1 := Lib.hid (show Only (Box w 1) W0 v3 from Only.of_below t3)
    have O1 := Lib.hid (O0.out.trans S1.out)
    have R0_1 := Lib.hid (row_call t3 R0_0.out)
    go_wp2_with fail
    go_ret
    exact ⟨congrArg _ (bytes_eq (by rw [HW.out]; simp [ByteArray.data_append])), Only.fin HB0.out O1.out⟩
end Go.Proofs.YtejibngkeaamkaaGreatDoor
