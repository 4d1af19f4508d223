/- Walks of frames as bytes, both, and of their size. -/
import Derived.Test.YtecdbfbaclgejaaRCmdPut
import Derived.Test.YtecdbfbaclgejaaCrc
namespace Go.Proofs.Ytecdbfbaclgejaa
open Go.RowKit

def cmdsBytes (l : List DCmd) : List UInt8 := num 1 l.length ++ (l.map cmdBytes).flatten
def frameBytes (l : List DCmd) : List UInt8 := cmdsBytes l ++ num 4 (crcOf (cmdsBytes l) : Int)

theorem cmdBytes_length (x : DCmd) : (cmdBytes x).length ≤ 64 + x.data.length := by
  have h1 := num_length 1 x.kind
  have h2 := targetBytes_length x
  have h3 := num_length 8 x.comp
  have h4 := num_length 2 x.data.length
  have h5 := num_length 1 255
  unfold cmdBytes dataBytes
  split
  · simp only [List.length_append]
    split <;> split <;> split <;> simp only [List.length_append, List.length_nil] <;> omega
  · omega
theorem checkCmd_data {x : DCmd} (h : checkCmd x = 0) : x.data.length ≤ 64 := by
  unfold checkCmd at h
  split at h
  · split at h
    · exact absurd h (by decide)
    · omega
  · exact absurd h (by decide)
theorem checkFrame_zero {l : List DCmd} (h : checkFrame l = 0) : l.length ≤ 64 ∧ ∀ x ∈ l, checkCmd x = 0 := by
  unfold checkFrame at h
  split at h
  · exact absurd h (by decide)
  · exact ⟨by omega, firstBad_zero h⟩
theorem flatten_bound : ∀ {l : List DCmd}, (∀ x ∈ l, x.data.length ≤ 64) → (l.map cmdBytes).flatten.length ≤ 128 * l.length
  | [], _ => by simp
  | x :: l, h => by
    have h1 := flatten_bound (l := l) fun y hy => h y (by simp [hy])
    have h2 := cmdBytes_length x
    have h3 := h x (by simp)
    simp only [List.map_cons, List.flatten_cons, List.length_append, List.length_cons]
    omega
theorem cmds_part {l : List DCmd} (hn : l.length ≤ 64) (hd : ∀ x ∈ l, x.data.length ≤ 64) (k : Nat) : (num 1 l.length ++ ((l.take k).map cmdBytes).flatten).length ≤ 10000 := by
  have h1 := num_length 1 l.length
  have h2 := flatten_bound (l := l.take k) fun x hx => hd x (List.mem_of_mem_take hx)
  have h3 : (l.take k).length ≤ l.length := by rw [List.length_take]; omega
  rw [List.length_append]; omega
theorem cmdsBytes_length {l : List DCmd} (hn : l.length ≤ 64) (hd : ∀ x ∈ l, x.data.length ≤ 64) : (cmdsBytes l).length ≤ 10000 := by
  have := cmds_part hn hd l.length
  rwa [List.take_length] at this
theorem frameBytes_length {l : List DCmd} (hn : l.length ≤ 64) (hd : ∀ x ∈ l, x.data.length ≤ 64) : (frameBytes l).length ≤ 10008 := by
  have h1 := cmdsBytes_length hn hd
  have h2 := num_length 4 (crcOf (cmdsBytes l) : Int)
  unfold frameBytes
  rw [List.length_append]; omega
theorem crc_i64 (l : List UInt8) : IntKind.i64.wrap ((crcOf l : Nat) : Int) = (crcOf l : Nat) := by
  have := crcOf_lt l
  exact IntWalk.i64_in _ ⟨by omega, by omega⟩

theorem flatten_single {α : Type} (q : List α) : [q].flatten = q := by simp
/-- A slice of one slice. -/
theorem val_single {α : Type} {r : Rep α} {e base : Nat} {Q : Nat → Prop} (w : World) (t : TypeId) {A : Option Addr} {c : Nat} {q : List α} (h : r.acc e base Q w (.slice A q.length c) q) :
    r.list.list.val (fun _ => True) (w.alloc (.cells #[.slice A q.length c] t)) (.slice (some ⟨w.heap.size, 0, none⟩) 1 1) [q] := by
  have hn := heap_alloc_new w (.cells #[.slice A q.length c] t)
  have hv : r.list.val (fun _ => True) (w.alloc (.cells #[.slice A q.length c] t)) (.slice A q.length c) q :=
    Rep.val_keep (w := w) (fun b _ hl => ⟨trivial, Below.heap_alloc _ _ _ hl.lt⟩) (Rep.acc_val h)
  obtain ⟨cs, hw, hr⟩ := hv
  have hcs : cs = [.slice A q.length c] := by
    obtain ⟨A', c', es, rfl, _⟩ := hr
    have : Value.slice A q.length c = .slice A' q.length c' := hw
    rw [this]
  subst hcs
  refine Rep.list_val rfl (Nat.le_refl _) (by simp [maxLen]) ⟨[.slice A q.length c], ⟨[.slice A q.length c], [], rfl, hr, rfl⟩, fun _ => ⟨w.heap.size, 0, rfl, trivial, ⟨_, _, _, hn⟩, ?_⟩⟩
  intro j u hj
  have hc : (w.alloc (.cells #[.slice A q.length c] t)).cell? ⟨w.heap.size, 0 + j, none⟩ = (#[Value.slice A q.length c] : Array Value)[0 + j]? := by simp only [World.cell?, hn]; rfl
  rw [hc]
  simpa using hj

/-- What frame.Put gives. -/
def PutRes (w : World) (l : List DCmd) (e : Ending) (w' : World) : Prop :=
  if checkFrame l = 0 then ∃ u, e = .returned (.tuple #[u, .int .i64 0]) ∧ Rep.byte.acc 5 w.heap.size (fun _ => False) w' u (frameBytes l) ∧ Below w.heap.size w w'
  else e = .returned (.tuple #[.slice none 0 0, .int .i64 (checkFrame l)]) ∧ Below w.heap.size w w'

set_option maxRecDepth 100000 in
set_option maxHeartbeats 1000000 in
/-- frame.Put -/
theorem framePut_calls {Q : Nat → Prop} {w : World} {v : Value} {l : List DCmd} (hx : rCmd.list.val Q w v l) :
    Calls Try.prog 184 #[v] w (PutRes w l) := by
  have HX0 := Lib.hid hx
  obtain ⟨A, c, rfl, hc1, hc2, hA⟩ := Rep.val_list hx
  unfold maxLen at hc2
  have HX := Lib.hid hA
  by_cases hbad : checkFrame l = 0
  case neg =>
    have HN := Lib.hid hbad
    have HP := Lib.hid (show ∀ e w', e = .returned (.tuple #[.slice none 0 0, .int .i64 (checkFrame l)]) ∧ Below w.heap.size w w' → PutRes w l e w' from fun e w' h => by unfold PutRes; rw [if_neg hbad]; exact h)
    have g0 : (checkFrame l == 0) = false := by simpa using hbad
    clear hx hA hbad
    go_enter Try.func184, Try.ntmps184
    go_wp2_with fail
    refine (frameCheck_calls HX0.out).mono ?_
    rintro e w1 ⟨rfl, hb1⟩
    have HB1 := Lib.hid hb1
    generalize checkFrame l = k at *
    clear hb1
    go_wp2_with fail
    go_ret2
    exact HP.out _ _ ⟨rfl, HB1.out⟩
  case pos =>
    have hn := (checkFrame_zero hbad).1
    have hd : ∀ x ∈ l, x.data.length ≤ 64 := fun x hx => checkCmd_data ((checkFrame_zero hbad).2 x hx)
    have HD := Lib.hid hd
    have HN := Lib.hid (cmds_part hn hd)
    have H0 := Lib.hid hbad
    have HC := Lib.hid (show (crcOf (cmdsBytes l) : Nat) < 4294967296 from crcOf_lt _)
    have HP := Lib.hid (show ∀ e w', (∃ u, e = .returned (.tuple #[u, .int .i64 0]) ∧ Rep.byte.acc 5 w.heap.size (fun _ => False) w' u (frameBytes l) ∧ Below w.heap.size w w') → PutRes w l e w' from fun e w' h => by unfold PutRes; rw [if_pos hbad]; exact h)
    have HZ := Lib.hid (show ∀ w : World, Rep.byte.list.val (fun _ => True) w (.slice none 0 0) ([] : List UInt8) from fun w => Rep.val_nil (by simp [maxLen]))
    have HW := wf_i64 (n := (l.length : Int)) (by omega) (by omega)
    clear hx hA hbad hd
    go_enter Try.func184, Try.ntmps184
    go_wp2_with fail
    refine (frameCheck_calls HX0.out).mono ?_
    rintro e w1 ⟨rfl, hb1⟩
    rw [H0.out]
    have HB1 := Lib.hid hb1
    clear hb1
    go_wp2_with fail
    refine (put_calls (width := 1) (n := l.length) (HZ.out _) (by simp) rfl HW).mono ?_
    rintro e w2 ⟨u, rfl, hu, hb2⟩
    have HU := Lib.hid (Rep.acc_base HB1.out.size hu)
    have HB2 := Lib.hid (HB1.out.trans (hb2.mono HB1.out.size))
    clear hu hb2
    go_wp2_with fail
    go_loopw [5, 18] (fun s i wr => ∃ k : Nat, i = .int .i64 k ∧ k ≤ l.length ∧ Rep.byte.acc 5 w.heap.size (fun _ => False) wr s (num 1 l.length ++ ((l.take k).map cmdBytes).flatten) ∧ Below w.heap.size w wr)
      (fun _ i _ => l.length - (intOf i).toNat)
    case atStart => exact ⟨0, rfl, by omega, by simpa using HU.out, HB2.out⟩
    case round =>
      obtain ⟨k, rfl, hk, hv, hb1⟩ := hrel
      have HB3 := Lib.hid hb1
      by_cases hlt : (k : Int) < l.length
      · have hk' : k < l.length := by omega
        obtain ⟨b, off, A6, c6, rfl, _, d0, d1, d2, d3, d4, d5, f0, f1, f2, f3, sp⟩ := rCmd_at (Rep.At.keep (w := w) (Q' := fun _ => True) (fun b _ hb => ⟨trivial, hb1.block b hb.lt⟩) HX.out) (List.getElem?_eq_getElem hk')
        have T := Lib.hid (show num 1 l.length ++ ((l.take (k + 1)).map cmdBytes).flatten = (num 1 l.length ++ ((l.take k).map cmdBytes).flatten) ++ cmdBytes l[k] by
          rw [take_flatten_succ cmdBytes hk']; simp only [List.append_assoc])
        have L := Lib.hid (HN.out k)
        have LD := Lib.hid (HD.out l[k] (List.getElem_mem hk'))
        generalize l[k] = x at *
        generalize num 1 l.length ++ ((l.take k).map cmdBytes).flatten = q at hv T L
        have HV := Lib.hid (rCmd_agg f0 f1 f2 f3 sp)
        have HQ := Lib.hid hv
        clear sp f0 f1 f2 f3 hb1 hv
        have HB4 := Lib.hid (HB3.out.alloc HB3.out.size (.cells #[.int .i64 x.kind, .bool x.loc, .int .i64 x.id.index, .int .i64 x.id.gen, .int .i64 x.comp, .slice A6 x.data.length c6] 179))
        have HV2 := Lib.hid (Rep.val_keep (w' := wr.alloc (.cells #[.int .i64 x.kind, .bool x.loc, .int .i64 x.id.index, .int .i64 x.id.gen, .int .i64 x.comp, .slice A6 x.data.length c6] 179)) (fun _ _ hl => ⟨trivial, Below.heap_alloc _ _ _ hl.lt⟩) HV.out (Q' := fun _ => True))
        have HQ2 := Lib.hid (Rep.acc_later (w' := wr.alloc (.cells #[.int .i64 x.kind, .bool x.loc, .int .i64 x.id.index, .int .i64 x.id.gen, .int .i64 x.comp, .slice A6 x.data.length c6] 179)) HQ.out ((Below.refl _ _).alloc (Nat.le_refl _) _))
        obtain ⟨Aq, cq, rfl, _, _⟩ := Rep.acc_form HQ.out
        go_wp2_with fail
        refine (cmdPut_calls (Rep.acc_val HQ2.out) (by have := L.out; omega) HV2.out (by have := LD.out; omega)).mono ?_
        rintro e w3 ⟨u3, rfl, hu3, hb3⟩
        rw [← T.out] at hu3
        have HU3 := Lib.hid (Rep.acc_base HB4.out.size hu3)
        have HB5 := Lib.hid (HB4.out.trans (hb3.mono HB4.out.size))
        clear hu3 hb3
        go_wp2_with fail
        exact ⟨⟨k + 1, by go_num, by omega, HU3.out, HB5.out⟩, by simp [intOf]; omega⟩
      · obtain rfl : k = l.length := by omega
        have T := Lib.hid (show num 1 l.length ++ ((l.take l.length).map cmdBytes).flatten = cmdsBytes l by rw [List.take_length]; rfl)
        rw [T.out] at hv
        have HL := Lib.hid (show (cmdsBytes l).length ≤ 10000 by rw [← T.out]; exact HN.out _)
        have HF := Lib.hid (show frameBytes l = cmdsBytes l ++ num 4 (crcOf (cmdsBytes l) : Int) from rfl)
        generalize frameBytes l = F at *
        generalize cmdsBytes l = q at *
        have HV := Lib.hid hv
        obtain ⟨Aq, cq, rfl, _, _⟩ := Rep.acc_form hv
        clear hv hb1
        go_wp2_with fail
        have HB4 := Lib.hid (HB3.out.alloc HB3.out.size (.cells #[.slice Aq q.length cq] 22))
        have HV4 := Lib.hid (Rep.acc_later (w' := wr.alloc (.cells #[.slice Aq q.length cq] 22)) HV.out ((Below.refl _ _).alloc (Nat.le_refl _) _))
        refine (crcOf_calls (l := [q]) (val_single wr 22 HV.out)).mono ?_
        rintro e w5 ⟨rfl, hw⟩
        have hw2 := hw.symm
        subst hw2
        clear hw
        rw [flatten_single]
        have hwr := crc_i64 q
        have hm := HC.out
        have hwf := wf_i64 (n := (crcOf q : Int)) (by omega) (by omega)
        generalize crcOf q = m at *
        go_wp2_with fail
        refine (put_calls (width := 4) (n := m) (Rep.acc_val HV4.out) (by have := HL.out; omega) rfl hwf).mono ?_
        rintro e w6 ⟨u6, rfl, hu6, hb6⟩
        rw [← HF.out] at hu6
        have HU6 := Lib.hid (Rep.acc_base HB4.out.size hu6)
        have HB6 := Lib.hid (HB4.out.trans (hb6.mono HB4.out.size))
        clear hu6 hb6
        go_wp2_with fail
        go_ret2
        exact HP.out _ _ ⟨_, rfl, HU6.out, HB6.out⟩

def frameSize (l : List DCmd) : Int := if checkFrame l = 0 then (frameBytes l).length else 0
set_option maxRecDepth 100000 in
set_option maxHeartbeats 1000000 in
/-- frame.Size -/
theorem frameSize_calls {Q : Nat → Prop} {w : World} {v : Value} {l : List DCmd} (hx : rCmd.list.val Q w v l) :
    Calls Try.prog 131 #[v] w fun e w' => e = .returned (.int .i64 (frameSize l)) ∧ Below w.heap.size w w' := by
  have HX := Lib.hid hx
  obtain ⟨A, c, rfl, hc1, hc2, hA⟩ := Rep.val_list hx
  clear hx hA
  by_cases h0 : checkFrame l = 0
  · have HF := Lib.hid (show frameSize l = (frameBytes l).length by unfold frameSize; rw [if_pos h0])
    have HP := Lib.hid (show ∀ e w', PutRes w l e w' → ∃ u, e = .returned (.tuple #[u, .int .i64 0]) ∧ Rep.byte.acc 5 w.heap.size (fun _ => False) w' u (frameBytes l) ∧ Below w.heap.size w w' from fun e w' h => by unfold PutRes at h; rwa [if_pos h0] at h)
    generalize frameBytes l = F at *
    clear h0
    go_enter Try.func131, Try.ntmps131
    go_wp2_with fail
    refine (framePut_calls HX.out).mono ?_
    intro e w1 hp
    obtain ⟨u, rfl, hu, hb⟩ := HP.out _ _ hp
    obtain ⟨A6, c6, rfl, _, _⟩ := Rep.acc_form hu
    clear hu hp
    go_wp2_with fail
    go_ret
    exact ⟨by rw [HF.out]; rfl, hb⟩
  · have HF := Lib.hid (show frameSize l = 0 by unfold frameSize; rw [if_neg h0])
    have HP := Lib.hid (show ∀ e w', PutRes w l e w' → e = .returned (.tuple #[.slice none 0 0, .int .i64 (checkFrame l)]) ∧ Below w.heap.size w w' from fun e w' h => by unfold PutRes at h; rwa [if_neg h0] at h)
    clear h0
    go_enter Try.func131, Try.ntmps131
    go_wp2_with fail
    refine (framePut_calls HX.out).mono ?_
    intro e w1 hp
    obtain ⟨rfl, hb⟩ := HP.out _ _ hp
    clear hp
    go_wp2_with fail
    go_ret
    exact ⟨by rw [HF.out]; rfl, hb⟩

set_option maxRecDepth 100000 in
set_option maxHeartbeats 1000000 in
/-- ref14.Bytes -/
theorem rframeBytes_calls {Q : Nat → Prop} {w : World} {v : Value} {l : List DCmd} (hx : rCmd.list.val Q w v l) (hn : l.length ≤ 64) (hd : ∀ x ∈ l, x.data.length ≤ 64) :
    Calls Try.prog 98 #[v] w (ResA Rep.byte 5 w (frameBytes l)) := by
  obtain ⟨A, c, rfl, hc1, hc2, hA⟩ := Rep.val_list hx
  unfold maxLen at hc2
  have HX := Lib.hid hA
  have HD := Lib.hid hd
  have HN := Lib.hid (cmds_part hn hd)
  have HC := Lib.hid (show (crcOf (cmdsBytes l) : Nat) < 4294967296 from crcOf_lt _)
  have HW := wf_i64 (n := (l.length : Int)) (by omega) (by omega)
  clear hx hA hd
  go_enter Try.func98, Try.ntmps98
  go_wp2_with fail
  refine (rnum_calls (width := 1) (n := l.length) rfl HW).mono ?_
  rintro e w2 ⟨u, rfl, hu, hb2⟩
  have HU := Lib.hid hu
  have HB2 := Lib.hid hb2
  clear hu hb2
  go_wp2_with fail
  go_loopw [3, 4] (fun s i wr => ∃ k : Nat, i = .int .i64 k ∧ k ≤ l.length ∧ Rep.byte.acc 5 w.heap.size (fun _ => False) wr s (num 1 l.length ++ ((l.take k).map cmdBytes).flatten) ∧ Below w.heap.size w wr)
    (fun _ i _ => l.length - (intOf i).toNat)
  case atStart => exact ⟨0, rfl, by omega, by simpa using HU.out, HB2.out⟩
  case round =>
    obtain ⟨k, rfl, hk, hv, hb1⟩ := hrel
    have HB3 := Lib.hid hb1
    by_cases hlt : (k : Int) < l.length
    · have hk' : k < l.length := by omega
      obtain ⟨b, off, A6, c6, rfl, _, d0, d1, d2, d3, d4, d5, f0, f1, f2, f3, sp⟩ := rCmd_at (Rep.At.keep (w := w) (Q' := fun _ => True) (fun b _ hb => ⟨trivial, hb1.block b hb.lt⟩) HX.out) (List.getElem?_eq_getElem hk')
      have T := Lib.hid (show num 1 l.length ++ ((l.take (k + 1)).map cmdBytes).flatten = (num 1 l.length ++ ((l.take k).map cmdBytes).flatten) ++ cmdBytes l[k] by
        rw [take_flatten_succ cmdBytes hk']; simp only [List.append_assoc])
      have L := Lib.hid (HN.out k)
      have LD := Lib.hid (HD.out l[k] (List.getElem_mem hk'))
      generalize l[k] = x at *
      generalize num 1 l.length ++ ((l.take k).map cmdBytes).flatten = q at hv T L
      have HV := Lib.hid (rCmd_agg f0 f1 f2 f3 sp)
      have HQ := Lib.hid hv
      have L7 := Lib.hid (show q.length + (cmdBytes x).length ≤ maxLen ∧ (q.length + (cmdBytes x).length) * 1 ≤ 140737488355328 by have h1 := L.out; have h2 := cmdBytes_length x; have h3 := LD.out; unfold maxLen; omega)
      clear sp f0 f1 f2 f3 hb1 hv
      obtain ⟨Aq, cq, rfl, _, _⟩ := Rep.acc_form HQ.out
      go_wp2_with fail
      refine (rcmdPut_calls HV.out (by have := LD.out; omega)).mono ?_
      rintro e w3 ⟨u3, rfl, hu3, hb3⟩
      have HB5 := Lib.hid (HB3.out.trans (hb3.mono HB3.out.size))
      have HA3 := Lib.hid (Rep.acc_later HQ.out hb3)
      have HU3 := Lib.hid hu3
      clear hu3 hb3 d0 d1 d2 d3 d4 d5
      go_wp2_with (refine wpList_spread_leaf (e := 5) (base := w.heap.size) (Q := fun _ => False) Rep.leaf_byte rfl _ _ 22 rfl (.int .u8 0) 1 1 Try.underlying22 info5 rfl (by decide) rfl _ q (by exact rfl) HA3.out _ (cmdBytes x) (by exact rfl) HU3.out L7.out.1 L7.out.2 HB5.out.size ?_; intro v5 w5 hacc5 hgr5 hat5; rw [← T.out] at hacc5; have HU5 := Lib.hid hacc5; have D5 := Lib.hid (Rep.acc_below HA3.out HB5.out hgr5 HB5.out.size); clear hacc5 hgr5 hat5)
      exact ⟨⟨k + 1, by go_num, by omega, HU5.out, D5.out⟩, by simp [intOf]; omega⟩
    · obtain rfl : k = l.length := by omega
      have T := Lib.hid (show num 1 l.length ++ ((l.take l.length).map cmdBytes).flatten = cmdsBytes l by rw [List.take_length]; rfl)
      rw [T.out] at hv
      have HL := Lib.hid (show (cmdsBytes l).length ≤ 10000 by rw [← T.out]; exact HN.out _)
      have HF := Lib.hid (show frameBytes l = cmdsBytes l ++ num 4 (crcOf (cmdsBytes l) : Int) from rfl)
      generalize frameBytes l = F at *
      generalize cmdsBytes l = q at *
      have HV := Lib.hid hv
      obtain ⟨Aq, cq, rfl, _, _⟩ := Rep.acc_form hv
      clear hv hb1
      go_wp2_with fail
      refine (rcrc_calls (l := q) (Rep.acc_val HV.out)).mono ?_
      rintro e w5 ⟨rfl, hw⟩
      have hw2 := hw.symm
      subst hw2
      clear hw
      have hwr := crc_i64 q
      have hm := HC.out
      have hwf := wf_i64 (n := (crcOf q : Int)) (by omega) (by omega)
      generalize crcOf q = m at *
      have L7 := Lib.hid (show q.length + (num 4 (m : Int)).length ≤ maxLen ∧ (q.length + (num 4 (m : Int)).length) * 1 ≤ 140737488355328 by have h1 := HL.out; have h2 := num_length 4 m; unfold maxLen; omega)
      go_wp2_with fail
      refine (rnum_calls (width := 4) (n := m) rfl hwf).mono ?_
      rintro e w6 ⟨u6, rfl, hu6, hb6⟩
      have HB6 := Lib.hid (HB3.out.trans (hb6.mono HB3.out.size))
      have HA6 := Lib.hid (Rep.acc_later HV.out hb6)
      have HU6 := Lib.hid (Rep.acc_fresh hu6)
      clear hu6 hb6
      go_wp2_with (refine wpList_spread_leaf (e := 5) (base := w.heap.size) (Q := fun _ => False) Rep.leaf_byte rfl _ _ 22 rfl (.int .u8 0) 1 1 Try.underlying22 info5 rfl (by decide) rfl _ q (by exact rfl) HA6.out _ (num 4 (m : Int)) (by exact rfl) HU6.out L7.out.1 L7.out.2 HB6.out.size ?_; intro v5 w7 hacc5 hgr5 hat5; rw [← HF.out] at hacc5; have HU5 := Lib.hid hacc5; have D5 := Lib.hid (Rep.acc_below HA6.out HB6.out hgr5 HB6.out.size); clear hacc5 hgr5 hat5)
      go_ret
      exact ⟨_, rfl, HU5.out, D5.out⟩

end Go.Proofs.Ytecdbfbaclgejaa
