/- Texts on which the proofs stand: WalEach, WalAppend. No condition is laid on any input. -/
import Derived.Test.YteljibjbndpncaaWfG21
/- Walk of wal.each with a log's write. -/
namespace Go.Proofs.Yteljibjbndpncaa
open Go.RowKit

def eachSt (c : DConf) (x : LogSt) : DiskSt → Nat → List (List UInt8) → DiskSt × Int
  | st, _, [] => (st, 0)
  | st, i, p :: ps => if (pieceSt st c x i p).2 = 0 then eachSt c x (pieceSt st c x i p).1 (i + 1) ps else pieceSt st c x i p
def EachPost (F B : Nat → Prop) (P n : Nat) (W : World) (r : DiskSt × Int) (e : Ending) (W' : World) : Prop :=
  e = .returned (.int .i64 r.2) ∧ Only F W W' ∧ ∃ F' B' : Nat → Prop, DiskAt W' P F' B' n r.1 ∧ (∀ b, F' b → F b ∨ W.heap.size ≤ b) ∧ (∀ b, B' b → B b ∨ W.heap.size ≤ b) ∧ (∀ b, F b → F' b)
theorem eachSt_step {c : DConf} {x : LogSt} {s : DiskSt} {k : Nat} {ls : List (List UInt8)} {p : List UInt8} (hp : ls[k]? = some p) :
    eachSt c x s k (ls.drop k) = if (pieceSt s c x k p).2 = 0 then eachSt c x (pieceSt s c x k p).1 (k + 1) (ls.drop (k + 1)) else pieceSt s c x k p := by
  obtain ⟨hk, he⟩ := List.getElem?_eq_some_iff.1 hp
  rw [List.drop_eq_getElem_cons hk, he]
  rfl
theorem DiskAt.more {W : World} {P n n' : Nat} {F B : Nat → Prop} {st : DiskSt} (h : DiskAt W P F B n st) (hn : n ≤ n') : DiskAt W P F B n' st := by
  obtain ⟨_, _, _, _, h⟩ := h
  exact ⟨_, _, _, _, h.more hn⟩
theorem Only.widen {F G : Nat → Prop} {X Y Z : World} (h : Only F X Y) (k : Only G Y Z) (hg : ∀ b, G b → F b ∨ X.heap.size ≤ b) : Only F X Z :=
  ⟨k.os.trans h.os, k.tape.trans h.tape, k.output.trans h.output, Nat.le_trans h.size k.size, fun b hb hf => (k.block b (Nat.lt_of_lt_of_le hb h.size) (fun e => (hg b e).elim hf (fun e => by omega))).trans (h.block b hb hf)⟩

set_option maxRecDepth 100000 in
set_option maxHeartbeats 4000000 in
/-- wal.each -/
theorem weach_calls {Q : Nat → Prop} {W : World} {L P : Nat} {A : Option Addr} {cap : Nat} {G : Nat → Prop} {c : DConf} {x : LogSt} {F B : Nat → Prop} {n : Nat} {st : DiskSt} {v : Value} {ls : List (List UInt8)}
    (h : LogW W L P A cap G c x) (hd : DiskAt W P F B n st) (hn : n ≤ 900000000) (hl : ls.length ≤ 1024) (hf : ∀ b, b = L ∨ G b → ¬ F b) (he : (Lit.int .i64 x.epoch).wf = true) (ht : 0 ≤ x.tail ∧ x.tail ≤ 500000000000000)
    (hx : Rep.byte.list.list.val Q W v ls) (hQ : ∀ b, Q b → ¬ F b) :
    Calls Try.prog 66 #[v, .func (.func 67) #[.pointer (some ⟨L, 0, none⟩)] #[]] W (EachPost F B P (n + ls.length) W (eachSt c x st 0 ls)) := by
  obtain ⟨Av, cv, rfl, hc1, hc2, hA⟩ := Rep.val_list hx
  have HX := Lib.hid (show ∀ W', Only F W W' → Rep.byte.list.At Q W' Av ls from fun W' ho => Rep.At.keep (w := W) (fun b hb hl => ⟨hb, ho.block b hl.lt (hQ b hb)⟩) hA)
  have HLO := Lib.hid (fun W' (ho : Only F W W') => h.only ho hf)
  have HLT := Lib.hid h.lt
  have HD := Lib.hid hd
  have HFF := Lib.hid hf
  have HE := Lib.hid he
  have HT := Lib.hid ht
  have HN := Lib.hid hn
  unfold maxLen at hc2
  clear h hd hf he ht hx hA hn
  generalize hlen : ls.length = len at *
  have HLEN := Lib.hid hlen
  clear hlen
  go_enter Try.func66, Try.ntmps66
  go_wp2_with fail
  go_loopw [10] (fun i wr => ∃ (k : Nat) (s : DiskSt) (Fk Bk : Nat → Prop), i = .int .i64 k ∧ k ≤ len ∧ DiskAt wr P Fk Bk (n + k) s ∧ Only F W wr ∧ Hid (∀ b, Fk b → F b ∨ W.heap.size ≤ b) ∧ Hid (∀ b, Bk b → B b ∨ W.heap.size ≤ b) ∧ Hid (∀ b, F b → Fk b) ∧ Hid (eachSt c x st 0 ls = eachSt c x s k (ls.drop k))) (fun i _ => len - (intOf i).toNat)
  case atStart => exact ⟨0, st, F, B, rfl, Nat.zero_le _, HD.out, Only.refl _ _, fun b hb => .inl hb, fun b hb => .inl hb, fun b hb => hb, rfl⟩
  case round =>
    obtain ⟨k, s, Fk, Bk, rfl, hk, hds, hos, hF1, hB1, hF2, heq⟩ := hrel
    have HDS := Lib.hid hds
    have HOS := Lib.hid hos
    by_cases hlt : (k : Int) < len
    · have hkl : k < ls.length := by have := HLEN.out; omega
      obtain ⟨p, hp⟩ : ∃ p, p = ls[k] := ⟨_, rfl⟩
      have hget : ls[k]? = some p := by rw [hp]; exact List.getElem?_eq_getElem hkl
      have HST := Lib.hid (heq.out.trans (eachSt_step hget))
      obtain ⟨bb, off, B5, c5, rfl, hcell, hc5, hm5, hat⟩ := Rep.At.list (HX.out wr hos) hget
      have HP := Lib.hid (show Rep.byte.list.val Q wr (.slice B5 p.length c5) p from Rep.list_val rfl hc5 hm5 hat)
      have HLW := Lib.hid (HLO.out wr hos)
      have HFK := Lib.hid (show ∀ b, b = L ∨ G b → ¬ Fk b from fun b hb hfk => (hF1.out b hfk).elim (HFF.out b hb) (fun e => by have := HLT.out b hb; omega))
      have HI := Lib.hid (show 0 ≤ x.tail + (k : Int) ∧ x.tail + (k : Int) ≤ 1000000000000000 by have := HT.out; omega)
      clear hds hos heq hp hget hat
      go_wp2_with fail
      refine (wwrite_calls HLW.out HDS.out (by have := HN.out; omega) HFK.out HE.out HI.out HP.out).mono ?_
      rintro e w4 ⟨rfl, ho4, F4, B4, hd4, hF4, hB4, hF5⟩
      generalize pieceSt s c x k p = r at *
      obtain ⟨s4, er⟩ := r
      dsimp only at *
      have HO4 := Lib.hid (HOS.out.widen ho4 hF1.out)
      have HD4 := Lib.hid hd4
      have hs0 := HOS.out.size
      have HF4 := Lib.hid (show ∀ b, F4 b → F b ∨ W.heap.size ≤ b from fun b hb => (hF4 b hb).elim (hF1.out b) (fun e => .inr (Nat.le_trans hs0 e)))
      have HB4 := Lib.hid (show ∀ b, B4 b → B b ∨ W.heap.size ≤ b from fun b hb => (hB4 b hb).elim (hB1.out b) (fun e => .inr (Nat.le_trans hs0 e)))
      have HF5 := Lib.hid (show ∀ b, F b → F4 b from fun b hb => hF5 b (hF2.out b hb))
      clear ho4 hd4 hF4 hB4 hF5 hF1 hB1 hF2
      by_cases he0 : er = 0
      · subst he0
        have HST2 := Lib.hid (show eachSt c x st 0 ls = eachSt c x s4 (k + 1) (ls.drop (k + 1)) by rw [HST.out, if_pos rfl])
        go_wp2_with fail
        exact ⟨⟨k + 1, s4, F4, B4, rfl, by omega, HD4.out, HO4.out, HF4.out, HB4.out, HF5.out, HST2.out⟩, by show len - ((k : Int) + 1).toNat < len - (k : Int).toNat; omega⟩
      · have g0 : (er == 0) = false := by simpa using he0
        have HST2 := Lib.hid (show eachSt c x st 0 ls = (s4, er) by rw [HST.out, if_neg he0])
        clear he0
        go_wp2_with fail
        go_ret
        exact ⟨by rw [HST2.out]; rfl, HO4.out, F4, B4, by rw [HST2.out]; exact HD4.out.more (by omega), HF4.out, HB4.out, HF5.out⟩
    · have HKE := Lib.hid (show eachSt c x st 0 ls = (s, 0) by rw [heq.out, List.drop_of_length_le (by have := HLEN.out; omega)]; rfl)
      clear hds hos heq
      go_wp2_with fail
      go_ret
      exact ⟨by rw [HKE.out]; rfl, HOS.out, Fk, Bk, by rw [HKE.out]; exact HDS.out.more (by omega), hF1.out, hB1.out, hF2.out⟩
end Go.Proofs.Yteljibjbndpncaa
/- Walk of a record appended to a log. -/
namespace Go.Proofs.Yteljibjbndpncaa
open Go.RowKit

def appendOk (c : DConf) (x : LogSt) (b : List UInt8) : Bool :=
  decide (splitOf x.seq b ≠ []) && (decide (((splitOf x.seq b).length : Int) ≤ roomOf c x.head x.tail) && (placeB (x.tail + (splitOf x.seq b).length) && placeB (x.seq + 1)))
def appendSt (st : DiskSt) (c : DConf) (x : LogSt) (b : List UInt8) : DiskSt × LogSt × Int :=
  if appendOk c x b then
    (if (eachSt c x st 0 (splitOf x.seq b)).2 = 0 then ((eachSt c x st 0 (splitOf x.seq b)).1, { x with tail := x.tail + (splitOf x.seq b).length, seq := x.seq + 1 }, 0)
     else ((eachSt c x st 0 (splitOf x.seq b)).1, x, (eachSt c x st 0 (splitOf x.seq b)).2))
  else (st, x, 14)
/-- A log and its device, and what they are in. -/
structure WalAt (W : World) (L P : Nat) (A : Option Addr) (cap : Nat) (G F B : Nat → Prop) (n : Nat) (c : DConf) (st : DiskSt) (x : LogSt) : Prop where
  log : LogW W L P A cap G c x
  dev : DiskAt W P F B n st
  nf : ∀ b, b = L ∨ G b → ¬ F b
  nb : ¬ B L
def AppendPost (L P : Nat) (A : Option Addr) (cap : Nat) (G F B : Nat → Prop) (n : Nat) (W : World) (c : DConf) (r : DiskSt × LogSt × Int) (e : Ending) (W' : World) : Prop :=
  e = .returned (.int .i64 r.2.2) ∧ Only (fun b => F b ∨ b = L) W W' ∧ ∃ F' B' : Nat → Prop, WalAt W' L P A cap G F' B' n c r.1 r.2.1 ∧ (∀ b, F' b → F b ∨ W.heap.size ≤ b) ∧ (∀ b, B' b → B b ∨ W.heap.size ≤ b) ∧ (∀ b, F b → F' b)
theorem split_length {seq : Int} {b : List UInt8} : (splitOf seq b).length ≤ 1024 := by
  unfold splitOf; split
  · simp
  · rw [List.length_map, List.length_range]; omega

set_option maxRecDepth 100000 in
set_option maxHeartbeats 4000000 in
/-- (*wal.Log).Append -/
theorem wappend_calls {Q : Nat → Prop} {W : World} {L P : Nat} {A : Option Addr} {cap : Nat} {G : Nat → Prop} {c : DConf} {x : LogSt} {F B : Nat → Prop} {n : Nat} {st : DiskSt} {v : Value} {b : List UInt8}
    (h : WalAt W L P A cap G F B n c st x) (hn : n ≤ 900000000) (he : (Lit.int .i64 x.epoch).wf = true) (ht : 0 ≤ x.tail ∧ x.tail ≤ 281474976710656) (hs : 0 ≤ x.seq ∧ x.seq ≤ 281474976710656)
    (hx : Rep.byte.list.val Q W v b) (hl : b.length ≤ 10000000) :
    Calls Try.prog 29 #[.pointer (some ⟨L, 0, none⟩), v] W (AppendPost L P A cap G F B (n + 1024) W c (appendSt st c x b)) := by
  have HLW := Lib.hid h.log
  have HD := Lib.hid h.dev
  have HNF := Lib.hid h.nf
  have HNB := Lib.hid h.nb
  have HLT := Lib.hid h.log.lt
  have HFW := Lib.hid (show ∀ b, F b ∨ B b → b < W.heap.size by obtain ⟨_, _, _, _, hh⟩ := h.dev; exact hh.lt)
  have HN := Lib.hid hn
  have HE := Lib.hid he
  have HT := Lib.hid ht
  have HSQ := Lib.hid hs
  have HV := Lib.hid hx
  have HSW := Lib.hid (show (Lit.int .i64 x.seq).wf = true from wf_i64 (by omega) (by omega))
  have e9 := h.log.cells.c9
  have HSAME := Lib.hid (show ∀ W', Below W.heap.size W W' → ∃ F' B' : Nat → Prop, WalAt W' L P A cap G F' B' (n + 1024) c st x ∧ (∀ b, F' b → F b ∨ W.heap.size ≤ b) ∧ (∀ b, B' b → B b ∨ W.heap.size ≤ b) ∧ (∀ b, F b → F' b) from fun W' hb => ⟨F, B, ⟨h.log.below hb, (h.dev.below hb).more (by omega), h.nf, h.nb⟩, fun b hb => .inl hb, fun b hb => .inl hb, fun b hb => hb⟩)
  clear h hn he hx
  have HA := Lib.hid (show appendSt st c x b = if appendOk c x b then (if (eachSt c x st 0 (splitOf x.seq b)).2 = 0 then ((eachSt c x st 0 (splitOf x.seq b)).1, { x with tail := x.tail + (splitOf x.seq b).length, seq := x.seq + 1 }, 0) else ((eachSt c x st 0 (splitOf x.seq b)).1, x, (eachSt c x st 0 (splitOf x.seq b)).2)) else (st, x, 14) from rfl)
  have HOK := Lib.hid (show appendOk c x b = (decide (splitOf x.seq b ≠ []) && (decide (((splitOf x.seq b).length : Int) ≤ roomOf c x.head x.tail) && (placeB (x.tail + (splitOf x.seq b).length) && placeB (x.seq + 1)))) from rfl)
  have hlen0 : (splitOf x.seq b).length ≤ 1024 := split_length
  have HSP := Lib.hid (show ∀ w' v', Below W.heap.size W w' → Rep.byte.list.val Q W v' b → Calls Try.prog 65 #[.int .i64 x.seq, v'] w' (Res Rep.byte.list.list (fun b => w'.heap.size ≤ b) w' (splitOf x.seq b)) from fun w' v' hb hv => split_calls (Rep.val_below hv hb (fun _ _ hl => hl.lt)) HSW.out hl)
  generalize hls : splitOf x.seq b = ls at *
  clear hls
  generalize hlen : ls.length = len at *
  have HLEN := Lib.hid hlen
  obtain ⟨rm, hrm⟩ : ∃ rm, roomOf c x.head x.tail = rm := ⟨_, rfl⟩
  have HRM := Lib.hid hrm
  obtain ⟨p1, hp1⟩ : ∃ p, placeB (x.tail + len) = p := ⟨_, rfl⟩
  have HP1 := Lib.hid hp1
  obtain ⟨p2, hp2⟩ : ∃ p, placeB (x.seq + 1) = p := ⟨_, rfl⟩
  have HP2 := Lib.hid hp2
  rw [hrm, hp1, hp2] at HOK
  have i1 : IntKind.i64.wrap (x.tail + len) = x.tail + len := IntWalk.i64_in _ ⟨by omega, by omega⟩
  have i2 : IntKind.i64.wrap (x.seq + 1) = x.seq + 1 := IntWalk.i64_in _ ⟨by omega, by omega⟩
  obtain ⟨ep, hh, tl, sq⟩ := x
  dsimp only at *
  clear hlen hrm hp1 hp2
  by_cases h0 : len = 0
  · have HF := Lib.hid (show appendSt st c ⟨ep, hh, tl, sq⟩ b = (st, ⟨ep, hh, tl, sq⟩, 14) by rw [HA.out, HOK.out, if_neg]; rw [List.eq_nil_of_length_eq_zero (HLEN.out.trans h0)]; simp)
    subst h0
    go_enter Try.func29, Try.ntmps29
    go_wp2_with fail
    refine (HSP.out _ _ (Below.refl _ _) HV.out).mono ?_
    rintro e w2 ⟨u, rfl, hu, hb2⟩
    have B2 := Lib.hid hb2
    have HU := Lib.hid hu
    obtain ⟨A2, c2, hu2, hc2, hm2, _⟩ := Rep.val_list hu
    rw [HLEN.out] at hu2 hc2
    subst hu2
    unfold maxLen at hm2
    clear hb2 hu e9
    go_wp2_with fail
    go_ret
    exact ⟨by rw [HF.out]; rfl, Only.of_below B2.out, by rw [HF.out]; exact HSAME.out _ B2.out⟩
  · have HNE := Lib.hid (show decide (ls ≠ []) = true from decide_eq_true (fun e => h0 (by rw [← HLEN.out, e]; rfl)))
    have hpos : 0 < len := by omega
    by_cases h1 : rm < (len : Int)
    · have HF := Lib.hid (show appendSt st c ⟨ep, hh, tl, sq⟩ b = (st, ⟨ep, hh, tl, sq⟩, 14) by rw [HA.out, HOK.out, if_neg]; rw [decide_eq_false (show ¬ (len : Int) ≤ rm by omega)]; simp)
      go_enter Try.func29, Try.ntmps29
      go_wp2_with fail
      refine (HSP.out _ _ (Below.refl _ _) HV.out).mono ?_
      rintro e w2 ⟨u, rfl, hu, hb2⟩
      have B2 := Lib.hid hb2
      have HU := Lib.hid hu
      obtain ⟨A2, c2, hu2, hc2, hm2, _⟩ := Rep.val_list hu
      rw [HLEN.out] at hu2 hc2
      subst hu2
      unfold maxLen at hm2
      clear hb2 hu e9
      go_wp2_with fail
      refine (wroom_calls (HLW.out.below B2.out)).mono ?_
      rintro e w3 ⟨rfl, hb3⟩
      rw [HRM.out]
      have B3 := Lib.hid (B2.out.trans (hb3.mono B2.out.size))
      have BB3 := Lib.hid hb3
      have e8 := (HLW.out.below B3.out).cells.c8
      have e9 := (HLW.out.below B3.out).cells.c9
      clear hb3
      go_wp2_with fail
      go_ret
      exact ⟨by rw [HF.out]; rfl, Only.of_below B3.out, by rw [HF.out]; exact HSAME.out _ B3.out⟩
    · have h1' : decide ((len : Int) ≤ rm) = true := decide_eq_true (by omega)
      cases p1 with
      | false =>
        have HF := Lib.hid (show appendSt st c ⟨ep, hh, tl, sq⟩ b = (st, ⟨ep, hh, tl, sq⟩, 14) by rw [HA.out, HOK.out, if_neg]; simp)
        clear h1'
        go_enter Try.func29, Try.ntmps29
        go_wp2_with fail
        refine (HSP.out _ _ (Below.refl _ _) HV.out).mono ?_
        rintro e w2 ⟨u, rfl, hu, hb2⟩
        have B2 := Lib.hid hb2
        have HU := Lib.hid hu
        obtain ⟨A2, c2, hu2, hc2, hm2, _⟩ := Rep.val_list hu
        rw [HLEN.out] at hu2 hc2
        subst hu2
        unfold maxLen at hm2
        clear hb2 hu e9
        go_wp2_with fail
        refine (wroom_calls (HLW.out.below B2.out)).mono ?_
        rintro e w3 ⟨rfl, hb3⟩
        rw [HRM.out]
        have B3 := Lib.hid (B2.out.trans (hb3.mono B2.out.size))
        have BB3 := Lib.hid hb3
        have e8 := (HLW.out.below B3.out).cells.c8
        have e9 := (HLW.out.below B3.out).cells.c9
        clear hb3
        go_wp2_with fail
        refine (walPlace_calls (tl + len) _).mono ?_
        rintro e w4 ⟨rfl, hw⟩
        have hw4 := hw.symm
        subst hw4
        clear hw
        rw [HP1.out]
        go_wp2_with fail
        go_ret
        exact ⟨by rw [HF.out]; rfl, Only.of_below B3.out, by rw [HF.out]; exact HSAME.out _ B3.out⟩
      | true =>
        cases p2 with
        | false =>
          have HF := Lib.hid (show appendSt st c ⟨ep, hh, tl, sq⟩ b = (st, ⟨ep, hh, tl, sq⟩, 14) by rw [HA.out, HOK.out, if_neg]; simp)
          clear h1'
          go_enter Try.func29, Try.ntmps29
          go_wp2_with fail
          refine (HSP.out _ _ (Below.refl _ _) HV.out).mono ?_
          rintro e w2 ⟨u, rfl, hu, hb2⟩
          have B2 := Lib.hid hb2
          have HU := Lib.hid hu
          obtain ⟨A2, c2, hu2, hc2, hm2, _⟩ := Rep.val_list hu
          rw [HLEN.out] at hu2 hc2
          subst hu2
          unfold maxLen at hm2
          clear hb2 hu e9
          go_wp2_with fail
          refine (wroom_calls (HLW.out.below B2.out)).mono ?_
          rintro e w3 ⟨rfl, hb3⟩
          rw [HRM.out]
          have B3 := Lib.hid (B2.out.trans (hb3.mono B2.out.size))
          have BB3 := Lib.hid hb3
          have e8 := (HLW.out.below B3.out).cells.c8
          have e9 := (HLW.out.below B3.out).cells.c9
          clear hb3
          go_wp2_with fail
          refine (walPlace_calls (tl + len) _).mono ?_
          rintro e w4 ⟨rfl, hw⟩
          have hw4 := hw.symm
          subst hw4
          clear hw
          rw [HP1.out]
          go_wp2_with fail
          refine (walPlace_calls (sq + 1) _).mono ?_
          rintro e w5 ⟨rfl, hw⟩
          have hw5 := hw.symm
          subst hw5
          clear hw
          rw [HP2.out]
          go_wp2_with fail
          go_ret
          exact ⟨by rw [HF.out]; rfl, Only.of_below B3.out, by rw [HF.out]; exact HSAME.out _ B3.out⟩
        | true =>
          have HF := Lib.hid (HA.out.trans (if_pos (by rw [HOK.out, HNE.out, h1']; rfl)))
          have HL1024 := Lib.hid hlen0
          have q0 : ((len : Int) == 0) = false := beq_eq_false_iff_ne.2 (by omega)
          have q1 : decide (rm < (len : Int)) = false := decide_eq_false h1
          clear h1'
          go_enter Try.func29, Try.ntmps29
          go_wp2_with fail
          refine (HSP.out _ _ (Below.refl _ _) HV.out).mono ?_
          rintro e w2 ⟨u, rfl, hu, hb2⟩
          have B2 := Lib.hid hb2
          have HU := Lib.hid hu
          obtain ⟨A2, c2, hu2, hc2, hm2, _⟩ := Rep.val_list hu
          rw [HLEN.out] at hu2 hc2
          subst hu2
          unfold maxLen at hm2
          clear hb2 hu e9
          go_wp2_with fail
          refine (wroom_calls (HLW.out.below B2.out)).mono ?_
          rintro e w3 ⟨rfl, hb3⟩
          rw [HRM.out]
          have B3 := Lib.hid (B2.out.trans (hb3.mono B2.out.size))
          have BB3 := Lib.hid hb3
          have e8 := (HLW.out.below B3.out).cells.c8
          have e9 := (HLW.out.below B3.out).cells.c9
          clear hb3
          go_wp2_with fail
          refine (walPlace_calls (tl + len) _).mono ?_
          rintro e w4 ⟨rfl, hw⟩
          have hw4 := hw.symm
          subst hw4
          clear hw
          rw [HP1.out]
          go_wp2_with fail
          refine (walPlace_calls (sq + 1) _).mono ?_
          rintro e w5 ⟨rfl, hw⟩
          have hw5 := hw.symm
          subst hw5
          clear hw
          rw [HP2.out]
          go_wp2_with fail
          refine (weach_calls (HLW.out.below B3.out) (HD.out.below B3.out) HN.out (by rw [HLEN.out]; exact HL1024.out) HNF.out HE.out (by have := HT.out; dsimp only; omega) (Q := fun b => W.heap.size ≤ b) (Rep.val_mono (fun b hb _ => hb) (Rep.val_below HU.out BB3.out (fun _ _ hl => hl.lt))) (fun b hb hf => by have := HFW.out b (.inl hf); omega)).mono ?_
          rintro e w6 ⟨rfl, ho6, F6, B6, hd6, hF6, hB6, hF7⟩
          generalize eachSt c ⟨ep, hh, tl, sq⟩ st 0 ls = r at *
          obtain ⟨s6, er⟩ := r
          dsimp only at *
          have HO6 := Lib.hid ((Only.of_below (F := F) B3.out).trans ho6)
          have HL6 := Lib.hid (HLW.out.only HO6.out HNF.out)
          have hs3 := B3.out.size
          have HF6 := Lib.hid (show ∀ b, F6 b → F b ∨ W.heap.size ≤ b from fun b hb => (hF6 b hb).imp id fun e => by omega)
          have HB6 := Lib.hid (show ∀ b, B6 b → B b ∨ W.heap.size ≤ b from fun b hb => (hB6 b hb).imp id fun e => by omega)
          have HD6 := Lib.hid (show DiskAt w6 P F6 B6 (n + 1024) s6 from hd6.more (by have := HL1024.out; have := HLEN.out; omega))
          have HF7 := Lib.hid hF7
          have HNF6 := Lib.hid (show ∀ b, b = L ∨ G b → ¬ F6 b from fun b hb hf => (HF6.out b hf).elim (HNF.out b hb) (fun e => by have := HLT.out b hb; omega))
          have HNB6 := Lib.hid (show ¬ B6 L from fun hb => (HB6.out L hb).elim HNB.out (fun e => by have := HLT.out L (.inl rfl); omega))
          have e8 := HL6.out.cells.c8
          have e9 := HL6.out.cells.c9
          have z8 := frozen_row HL6.out.blk 8
          have z9 := frozen_row HL6.out.blk 9
          clear ho6 hd6 hF6 hB6 hF7
          by_cases he0 : er = 0
          · subst he0
            have HF2 := Lib.hid (HF.out.trans (if_pos rfl))
            go_wp2_with fail
            go_ret
            refine ⟨by rw [HF2.out]; rfl, ?_, F6, B6, ?_, HF6.out, HB6.out, HF7.out⟩
            · exact ((HO6.out.sub (fun b hb => .inl hb)).trans (Only.set (.inr rfl))).trans (Only.set (.inr rfl))
            · rw [HF2.out]
              dsimp only
              have hbl : ∀ (b : Nat) u1 u2, b ≠ L → ((w6.setCell ⟨L, 8, none⟩ u1).setCell ⟨L, 9, none⟩ u2).heap[b]? = w6.heap[b]? := fun b u1 u2 hb => by rw [Below.heap_setCell _ _ _ _ hb, Below.heap_setCell _ _ _ _ hb]
              refine ⟨⟨heap_setRow (heap_setRow HL6.out.blk), Rep.val_keep (fun b hb _ => ⟨hb, hbl b _ _ (fun e => HL6.out.ne (e ▸ hb))⟩) HL6.out.conf, fun b hb => by have := HL6.out.lt b hb; simpa using this, HL6.out.ne⟩, HD6.out.keep (by simp) (fun b hb => hbl b _ _ (fun e => ?_)), HNF6.out, HNB6.out⟩
              rcases hb with hb | hb
              · exact HNF6.out L (.inl rfl) (e ▸ hb)
              · exact HNB6.out (e ▸ hb)
          · have g0 : (er == 0) = false := by simpa using he0
            have HF2 := Lib.hid (HF.out.trans (if_neg he0))
            clear he0
            go_wp2_with fail
            go_ret
            exact ⟨by rw [HF2.out]; rfl, HO6.out.sub (fun b hb => .inl hb), F6, B6, by rw [HF2.out]; exact ⟨HL6.out, HD6.out, HNF6.out, HNB6.out⟩, HF6.out, HB6.out, HF7.out⟩
end Go.Proofs.Yteljibjbndpncaa
