/- Texts on which the proofs stand: StoreLay, LayCount, StorePublish, Publish, Format, CalmLaw, PubLaw, FormatNew, HeldMath, Live27, StoreNils. No condition is laid on any input. -/
import Derived.Test.YtghbfbohnoebiaaGreatSnG34
import Derived.Test.YtghbfbohnoebiaaGreatSnG42
import Derived.Test.YtghbfbohnoebiaaGreatSnG43
import Derived.Test.YtghbfbohnoebiaaGreatSnG44
namespace Go.Proofs.YtghbfbohnoebiaaGreat
open Go.RowKit Go.Shelf
attribute [local go_sem] Oper.semAt_some

/-- The pages that are taken. -/
def layPages (refs : List Int) (n : Nat) : List Int := (allTo takeFn refs n).2.1
theorem layPages_len (refs : List Int) : ∀ n, (layPages refs n).length = n
  | 0 => rfl
  | n + 1 => by unfold layPages; rw [allTo_next (takeFn_ok refs n) rfl]; simp; exact layPages_len refs n
theorem takeFn_small {B : Int} {refs : List Int} (hB : 1 ≤ B) (h : SmallRefs B refs) : ∀ n, SmallRefs B (allTo takeFn refs n).1
  | 0 => h
  | n + 1 => by rw [allTo_next (takeFn_ok refs n) rfl]; exact takeOne_small hB (takeFn_small hB h n)

theorem results_ctt {P : Program} {fn : Func} {p u v : Tmp} {ty : TypeId} (h : fn.results = #[.cell p ty, .tmp u, .tmp v]) (tmps : Array Value) (w : World) (g : Nat) (t : TypeId) (cs : Array Value) (fr : Nat × Nat) (d : TypeDesc)
    (hp : tmps.getD p undef = .pointer (some ⟨g, 0, none⟩)) (hg : w.heap[g]? = some (.cells cs t fr))
    (hu : P.underlying ty = some d) (hd : (match d with | .struct _ | .array _ _ => true | _ => false) = true) (hi : (P.info? ty).map (·.size) = some cs.size) :
    (results fn tmps).run P w = .ok (.tuple #[.agg cs, tmps.getD u undef, tmps.getD v undef]) w := by
  have hp' : tmps[p]?.getD undef = .pointer (some ⟨g, 0, none⟩) := by simpa using hp
  simp [results, h, hp', asAddr, run_loadVar_row w g t ty cs fr d hg hu hd hi]
/-- 'append(s, xs...)' as0 a step of a region that draws its order. -/
theorem step_spread {α : Type} {r : Rep α} {e base : Nat} {Q Q' : Nat → Prop} {P : Program} {w : World} {ops : Array Oper} {o : Oper} {a : Act} {K : Act → World → Prop} {R : Exit → Act → World → Prop} {E : Prop} (hg : o.guard = none) (s x : Operand) (t : TypeId)
    (ho : o.op = .call { callee := .builtin .append, args := #[s, x], argTypes := #[t, t] })
    (z : Value) (size bytes : Nat) (ht : P.underlying t = some (.slice e)) (hi : (P.info? e).map (fun i => (i.zero, i.size, i.bytes)) = some (some z, size, bytes)) (hzs : z.cells.size = size) (hsz : 0 < size)
    (hr : r.size = size) (v : Value) (xs : List α) (hs : a.eval s = v) (h : r.acc e base Q w v xs) (u : Value) (ys : List α) (hx : a.eval x = u) (hy : r.list.val Q' w u ys)
    (hq : ∀ b, Q' b → IsC w b → Q b ∧ v.ownBlock ≠ some b)
    (h63 : xs.length + ys.length ≤ maxLen) (hbytes : (xs.length + ys.length) * bytes ≤ 140737488355328) (hbase : base ≤ w.heap.size)
    (H : ∀ v' w', r.acc e base Q w' v' (xs ++ ys) → w.grownBy w' v.ownBlock → K (a.put o.dst v') w') :
    if Region.wanted o (yielded ops a.tmps) = true then Oper.wp P o a w K R else E := by
  have hw : Region.wanted o (yielded ops a.tmps) = true := by simp [Region.wanted, hg]
  rw [if_pos hw]
  obtain ⟨A, c, rfl, h1, h2, es, h3, h4⟩ := Rep.val_list hy
  obtain ⟨v', w', q1, q2, q3, _⟩ := Rep.acc_more (P := P) (ty := o.type) (c := c) (A := A) ht hi hzs hsz hr h rfl (Rep.row_keep (fun b hb hl => ⟨hq b hb hl, rfl⟩) h3)
    (fun hn => by obtain ⟨b, off, q1, _, _, q2⟩ := h4 hn; exact ⟨b, off, q1, q2⟩) h63 hbytes hbase
  unfold Oper.wp
  rw [exec_append ho hs hx q1]
  exact H _ _ q2 q3
/-- The store, its disk and its pages' counts, while a call works upon them. -/
structure LayAt (D : Nat → Prop) (st : DiskSt) (S P n A base X : Nat) (x : StSt) (Ad : Option Addr) (cd : Nat) (Af : Option Addr) (cf : Nat) (Ao : Option Addr) (co : Nat) (rf : List Int) (u : Value) (V : World) : Prop where
  dev : DevD D V P n st
  row : StoreRow V S (.pointer (some ⟨P, 0, none⟩)) x A Ad cd Af cf Ao co
  al : AllocAt V A base rf u
  bx : Boxed V X 43 (.pointer (some ⟨S, 0, none⟩))
theorem LayAt.call {D : Nat → Prop} {st : DiskSt} {S P n A base X : Nat} {x : StSt} {Ad : Option Addr} {cd : Nat} {Af : Option Addr} {cf : Nat} {Ao : Option Addr} {co : Nat} {rf : List Int} {u : Value} {V V' : World} (h : LayAt D st S P n A base X x Ad cd Af cf Ao co rf u V) (hb : Below V.heap.size V V') : LayAt D st S P n A base X x Ad cd Af cf Ao co rf u V' :=
  ⟨h.dev.below hb, row_call hb h.row, h.al.call hb, (hb.block _ h.bx.lt).trans h.bx⟩
theorem LayAt.only {D G : Nat → Prop} {st : DiskSt} {S P n A base X : Nat} {x : StSt} {Ad : Option Addr} {cd : Nat} {Af : Option Addr} {cf : Nat} {Ao : Option Addr} {co : Nat} {rf rf' : List Int} {u u' : Value} {V V' : World} (h : LayAt D st S P n A base X x Ad cd Af cf Ao co rf u V) (ho : Only G V V')
    (hD : ∀ b, G b → ¬ D b) (hS : ¬ G S) (hX : ¬ G X) (ha : AllocAt V' A base rf' u') : LayAt D st S P n A base X x Ad cd Af cf Ao co rf' u' V' :=
  ⟨h.dev.only ho hD, (ho.block _ (Array.getElem?_eq_some_iff.1 h.row).1 hS).trans h.row, ha, (ho.block _ h.bx.lt hX).trans h.bx⟩

/-- What lay makes, from the flows, the pages that it took. -/
def laySuper (x : StSt) (fl : List DFlow) (pg : List Int) (head seq : Int) : DSuper := ⟨x.epoch, x.cur.gen + 1, x.log, x.pages, head, seq, ((dirFlows fl).length : Nat), pg.drop (newsOf fl).length⟩
def layFlows (fl : List DFlow) (pg : List Int) : List DFlow := fillOf fl (pg.take (newsOf fl).length)
def layRefs (refs : List Int) (fl : List DFlow) (n : Nat) : List Int := (addS 1 (allTo takeFn refs n).1 (pagesOf fl)).getD (allTo takeFn refs n).1
def layPieces (fl : List DFlow) (pg : List Int) : List (List UInt8) := newsOf fl ++ cut (dirFlows (layFlows fl pg))
def layWrite (x : StSt) (fl : List DFlow) (pg : List Int) (st : DiskSt) : DiskSt × Int := writeS (conf27 x.log x.pages) x.epoch pg (layPieces fl pg) st
structure LayPost (D : Nat → Prop) (W : World) (st : DiskSt) (S P n A base : Nat) (x : StSt) (Ad : Option Addr) (cd : Nat) (Af : Option Addr) (cf : Nat) (Ao : Option Addr) (co : Nat) (refs : List Int) (v : Value) (fl : List DFlow) (head seq : Int) (k : Nat) (vy vf : Value) (B5 B : Nat) (D' : Nat → Prop) (v' : Value) (W' : World) : Prop where
  b0 : W.heap.size ≤ B5
  b1 : B5 ≤ B
  b2 : B ≤ W'.heap.size
  super : rSuper.val (fun b => W.heap.size ≤ b ∧ b < B5) W' vy (laySuper x fl (layPages refs k) head seq)
  flows : rFlow.list.val (fun b => W.heap.size ≤ b ∧ b < B5) W' vf (layFlows fl (layPages refs k))
  al : AllocAt W' A base (layRefs refs fl k) v'
  own : v' = v ∨ ∀ b, v'.ownBlock = some b → B5 ≤ b ∧ b < B
  dev : DevD D' W' P (n + k) (layWrite x fl (layPages refs k) st).1
  fresh : ∀ b, D' b → D b ∨ B ≤ b
  row : StoreRow W' S (.pointer (some ⟨P, 0, none⟩)) x A Ad cd Af cf Ao co
  only : Only (fun b => v.ownBlock = some b ∨ b = A ∨ D b) W W'

set_option maxRecDepth 100000 in
set_option maxHeartbeats 2000000 in
/-- store.lay -/
theorem lay_calls {D Q Q' : Nat → Prop} {W : World} {P n S A base : Nat} {st : DiskSt} {x : StSt} {refs : List Int} {v vl : Value} {Ad : Option Addr} {cd : Nat} {Af : Option Addr} {cf : Nat} {Ao : Option Addr} {co : Nat} {l : List DStream} {head seq : Int}
    (hD : DevD D W P n st) (hn : n ≤ 800000000) (hS : StoreRow W S (.pointer (some ⟨P, 0, none⟩)) x A Ad cd Af cf Ao co) (hv : StoreVals Q W x Ad cd Af cf Ao co) (hok : StoreOk x) (ha : AllocAt W A base refs v) (hr : refs.length ≤ 1000000) (hsm : SmallRefs 1000000 refs) (hbase : base ≤ W.heap.size)
    (hx : rStream.list.val Q' W vl l) (hl : StreamsOk l) (hfit : needFlows (flowsOf x.flows l) ≤ 2000) (hnD : ¬ D S) (hAD : ¬ D A) (hSA : S ≠ A) (hvS : v.ownBlock ≠ some S) (hvD : ∀ b, v.ownBlock = some b → ¬ D b)
    (hwh : (Lit.int .i64 head).wf = true) (hws : (Lit.int .i64 seq).wf = true) (hwe : (Lit.int .i64 x.epoch).wf = true) (hw0 : (Lit.int .i64 x.log).wf = true) (hw1 : (Lit.int .i64 x.pages).wf = true) (hg : 0 ≤ x.cur.gen ∧ x.cur.gen ≤ 1000000000) :
    Calls Tryz.prog 53 #[.pointer (some ⟨S, 0, none⟩), vl, .int .i64 head, .int .i64 seq] W fun e W' => ∃ (vy vf : Value) (B5 B : Nat) (D' : Nat → Prop) (v' : Value), e = .returned (.tuple #[vy, vf, .int .i64 (layWrite x (flowsOf x.flows l) (layPages refs (needFlows (flowsOf x.flows l)).toNat) st).2]) ∧
      LayPost D W st S P n A base x Ad cd Af cf Ao co refs v (flowsOf x.flows l) head seq (needFlows (flowsOf x.flows l)).toNat vy vf B5 B D' v' W' := by
  have HX := Lib.hid (show Boxed (W.alloc (.cells #[.pointer (some ⟨S, 0, none⟩)] 43)) W.heap.size 43 (.pointer (some ⟨S, 0, none⟩)) from Boxed.new _ _ _)
  obtain ⟨W1, hW1⟩ : ∃ W1, (W.alloc (.cells #[.pointer (some ⟨S, 0, none⟩)] 43)).alloc (.cells #[.int .i64 0, .int .i64 0, .int .i64 0, .int .i64 0, .int .i64 0, .int .i64 0, .int .i64 0, .slice none 0 0] 37) = W1 := ⟨_, rfl⟩
  have hb1 : Below W.heap.size W W1 := by rw [← hW1]; exact ((Below.refl _ _).alloc (Nat.le_refl _) _).alloc (by simp) _
  have hsz : W1.heap.size = W.heap.size + 2 := by rw [← hW1]; simp
  have hY : W1.heap[W.heap.size + 1]? = some (.cells #[.int .i64 0, .int .i64 0, .int .i64 0, .int .i64 0, .int .i64 0, .int .i64 0, .int .i64 0, .slice none 0 0] 37 (0, 0)) := by
    rw [← hW1]; have := heap_alloc_new (W.alloc (.cells #[.pointer (some ⟨S, 0, none⟩)] 43)) (.cells #[.int .i64 0, .int .i64 0, .int .i64 0, .int .i64 0, .int .i64 0, .int .i64 0, .int .i64 0, .slice none 0 0] 37); simpa using this
  have HL1 := Lib.hid (show LayAt D st S P n A base W.heap.size x Ad cd Af cf Ao co refs v W1 from ⟨hD.below hb1, row_call hb1 hS, ha.call hb1, by rw [← hW1]; exact (Boxed.new _ _ _).alloc _⟩)
  have hv1 : StoreVals Q W1 x Ad cd Af cf Ao co := hv.keep fun b hq hl => ⟨hq, hb1.block b hl.lt⟩
  have hx1 : rStream.list.val Q' W1 vl l := Rep.val_below hx hb1 (fun _ _ h => h.lt)
  have HC1 := Lib.hid (next_calls (cell_row HL1.out.row 16) hv1.flows hx1 hok.flows hl)
  have HFO := Lib.hid (flowsOf_ok (old := x.flows) hl)
  have HNR := Lib.hid (needFlows_range (flowsOf_ok (old := x.flows) hl))
  have HDL := Lib.hid (dirFlows_len (flowsOf_ok (old := x.flows) hl))
  obtain ⟨fl, hfl⟩ : ∃ fl, flowsOf x.flows l = fl := ⟨_, rfl⟩
  rw [hfl] at HC1 HFO HNR HDL hfit ⊢
  obtain ⟨Al, cl, rfl, _, _, _⟩ := Rep.val_list hx
  have HY := Lib.hid hY
  have HB1 := Lib.hid hb1
  have HSZ := Lib.hid hsz
  have HFL := Lib.hid hfl
  have HFIT := Lib.hid hfit
  have HOK := Lib.hid hok
  have HSM := Lib.hid hsm
  have HBA := Lib.hid hbase
  have HG := Lib.hid hg
  have HWH := Lib.hid (And.intro hwh hws)
  have HWF := Lib.hid (And.intro hwe (And.intro hw0 hw1))
  have HFP := Lib.hid (flowsOf_pages (old := x.flows) (next := l))
  rw [hfl] at HFP
  have HND := Lib.hid (show ¬ D S ∧ ¬ D A ∧ S ≠ A ∧ v.ownBlock ≠ some S ∧ (∀ b, v.ownBlock = some b → ¬ D b) ∧ S < W.heap.size ∧ A < W.heap.size ∧ (∀ b, v.ownBlock = some b → b < W.heap.size) from ⟨hnD, hAD, hSA, hvS, hvD, (Array.getElem?_eq_some_iff.1 hS).1, ha.lt, fun b hb => (Rep.acc_own ha.acc b hb).2⟩)
  have HDD := Lib.hid hD.1
  have HV1 := Lib.hid hv1
  have HR := Lib.hid hr
  have HN := Lib.hid hn
  clear hwh hws hwe hw0 hw1 hb1 hY hv1 hx1 hv hx hS ha hD hfl hsz HX hfit hok hsm hbase hg hnD hAD hSA hvS hvD hl hr hn
  have HW1 := Lib.hid hW1
  clear hW1
  go_enter Tryz.func53, Tryz.ntmps53
  go_wp2_with fail
  rw [HW1.out]
  have hmf : ∀ (fn : Fn) (first cap : Array Value) (w : World), (Instr.makeFunc fn first cap).run Tryz.prog w = .ok (.func fn first cap) w := fun _ _ _ _ => rfl
  refine HC1.out.mono ?_
  rintro e w2 ⟨vf, vn, rfl, hvf, hvn, hb2⟩
  have HL2 := Lib.hid (HL1.out.call hb2)
  have HY2 := Lib.hid ((hb2.block _ (by have := HSZ.out; omega)).trans HY.out)
  have HB2 := Lib.hid (HB1.out.trans (hb2.mono HB1.out.size))
  have HZ2 := Lib.hid hb2.size
  obtain ⟨Af2, cf2, rfl, hf21, hf22, _⟩ := Rep.val_list hvf
  obtain ⟨An, cn, rfl, _, _⟩ := Rep.acc_form hvn
  have HVF := Lib.hid hvf
  have HVN := Lib.hid hvn
  obtain ⟨nn, hnn⟩ : ∃ nn, (newsOf fl).length = nn := ⟨_, rfl⟩
  obtain ⟨d, hd⟩ : ∃ d, (dirFlows fl).length = d := ⟨_, rfl⟩
  obtain ⟨pc, hpc⟩ : ∃ pc : Nat, pageCount (d : Nat) = (pc : Int) := by
    have := HNR.out.1
    rw [hd] at this
    exact ⟨(pageCount (d : Nat)).toNat, by omega⟩
  have hnp : nn + pc ≤ 2000 := by
    have := HFIT.out
    unfold needFlows at this
    rw [hnn, hd, hpc] at this
    omega
  have hd1 : 2 ≤ d := by
    rw [← hd]; unfold dirFlows dirBytes
    rw [List.length_append]
    have : (num 2 (fl.map entryOf).length).length = 2 := by simp [num]; rfl
    omega
  have hpc1 : 1 ≤ pc := by
    have e := hpc
    unfold pageCount at e
    rw [if_neg (by omega)] at e
    omega
  have hdl : d ≤ 10000000 := by
    have := HDL.out
    rw [hd] at this
    exact Nat.le_trans this (by decide)
  have HNN := Lib.hid hnn
  have HD2 := Lib.hid hd
  have HPC := Lib.hid hpc
  have hk : (needFlows fl).toNat = nn + pc := by unfold needFlows; rw [hnn, hd, hpc]; omega
  have HK := Lib.hid hk
  clear hk
  rw [hnn, hd]
  rw [hnn] at hvn
  clear hb2 hvf hvn hnn hd hpc hf21 hf22
  go_wp2_with fail
  refine (count_calls (d : Int) _ (by omega) (by omega)).mono ?_
  rintro e w3 ⟨rfl, hw⟩
  obtain rfl := hw.symm
  clear hw
  rw [HPC.out]
  have iw : IntKind.i64.wrap ((nn : Int) + (pc : Int)) = ((nn + pc : Nat) : Int) := by
    rw [IntWalk.i64_in _ ⟨by omega, by omega⟩]; omega
  go_wp2_with fail
  refine (taken_calls (n := nn + pc) (by omega) HL2.out.bx.cell (cell_row HL2.out.row 18) HL2.out.al HR.out (fun e => by have := HND.out.2.2.2.2.2.2.2 _ e; omega) HND.out.2.2.2.1).mono ?_
  rintro e w3 ⟨u3, rfl, hacc3, hal3, ho3⟩
  have HL3 := Lib.hid (HL2.out.only ho3 (fun b hb => HND.out.2.2.2.2.1 b hb) (fun e => HND.out.2.2.2.1 e) (fun e => by have := HND.out.2.2.2.2.2.2.2 _ e; omega) hal3)
  have hne3 : ∀ b, W.heap.size ≤ b → b < w2.heap.size → w3.heap[b]? = w2.heap[b]? := fun b h1 h2 => ho3.block b h2 (fun e => by have := HND.out.2.2.2.2.2.2.2 b e; omega)
  have HY3 := Lib.hid ((hne3 _ (Nat.le_succ _) (by have := HZ2.out; have := HSZ.out; omega)).trans HY2.out)
  have HVF3 := Lib.hid (Rep.val_keep (Q' := fun b => W1.heap.size ≤ b) (fun b hq hl => ⟨hq, hne3 b (by have := HSZ.out; have hq : W1.heap.size ≤ b := hq; omega) hl.lt⟩) HVF.out)
  have HVN3 := Lib.hid (Rep.acc_keep (Q' := fun b => W1.heap.size ≤ b) (fun b hb hl => hne3 b (by
    have := HSZ.out
    rcases hb with hb | hb
    · have hb : W1.heap.size ≤ b := hb; omega
    · have := (Rep.acc_own HVN.out b hb).1; omega) hl.lt) (fun _ h _ => h) HVN.out)
  have HO3 := Lib.hid ((Only.of_below HB2.out : Only (fun b => v.ownBlock = some b) W w2).trans ho3)
  have HA3 := Lib.hid hacc3
  have HZ3 := Lib.hid ho3.size
  have hpl := layPages_len refs (nn + pc)
  obtain ⟨pg, hpg⟩ : ∃ pg, layPages refs (nn + pc) = pg := ⟨_, rfl⟩
  obtain ⟨r1, hr1⟩ : ∃ r1, (allTo takeFn refs (nn + pc)).1 = r1 := ⟨_, rfl⟩
  have hpg2 : (allTo takeFn refs (nn + pc)).2.1 = pg := hpg
  rw [hpg2] at HA3
  rw [hr1] at HL3
  rw [hpg] at hpl
  have HPG := Lib.hid hpg
  have HR1 := Lib.hid hr1
  have HPL := Lib.hid hpl
  obtain ⟨A3, c3, rfl, hc31, hc32⟩ := Rep.acc_form HA3.out
  rw [hpl] at hc31 ⊢
  clear hacc3 hal3 ho3 hne3 hpg hpg2 hr1 hpl iw
  go_wp2_with fail
  refine (pages_calls (Rep.val_keep (fun b _ hl => ⟨hl.lt, rfl⟩) HVF3.out) (fun f hf => Nat.le_trans (HFO.out.2 f hf).1 (by decide)) (Nat.le_trans HFO.out.1 (by decide))).mono ?_
  rintro e w4 ⟨u4, rfl, hacc4, hb4⟩
  have HL4 := Lib.hid (HL3.out.call hb4)
  have HY4 := Lib.hid ((hb4.block _ (by have := HZ2.out; have := HZ3.out; have := HSZ.out; omega)).trans HY3.out)
  have HVF4 := Lib.hid (Rep.val_keep (Q' := fun b => W1.heap.size ≤ b) (fun b hq hl => ⟨hq, hb4.block b hl.lt⟩) HVF3.out)
  have HVN4 := Lib.hid (Rep.acc_later HVN3.out hb4)
  have HA4 := Lib.hid (Rep.acc_later HA3.out hb4)
  have HO4 := Lib.hid (HO3.out.trans (Only.of_below hb4))
  have HZ4 := Lib.hid hb4.size
  have HP4 := Lib.hid hacc4
  obtain ⟨A4, c4, rfl, hc41, hc42⟩ := Rep.acc_form hacc4
  obtain ⟨pk, hpk⟩ : ∃ pk, (pagesOf fl).length = pk := ⟨_, rfl⟩
  rw [hpk] at hc41 ⊢
  have HPK := Lib.hid hpk
  clear hacc4 hb4 hpk
  unfold maxLen at hc32 hc42
  have hnc : nn ≤ c3 := by omega
  go_wp2_with fail
  have hpat : (Rep.int .i64).At (fun b => b < w4.heap.size) w4 A3 pg := by
    have h := Rep.val_slice (Rep.acc_val HA4.out)
    exact Rep.At.keep (fun b _ hl => ⟨hl.lt, rfl⟩) h.2.2
  have HTL := Lib.hid (show (pg.take nn).length = nn by rw [List.length_take, HPL.out]; omega)
  refine (fill_calls (pages := pg.take nn) (Rep.val_keep (fun b _ hl => ⟨hl.lt, rfl⟩) HVF4.out) (Rep.list_val HTL.out.symm hnc (by unfold maxLen; exact hc32) (Rep.At.take hpat nn)) (fun f hf => Nat.le_trans (HFO.out.2 f hf).1 (by decide)) (Nat.le_trans HFO.out.1 (by decide)) (by rw [HTL.out]; exact HNN.out)).mono ?_
  rintro e w5 ⟨u5, rfl, hu5, hb5⟩
  have HL5 := Lib.hid (HL4.out.call hb5)
  have HY5 := Lib.hid ((hb5.block _ (by have := HZ2.out; have := HZ3.out; have := HZ4.out; have := HSZ.out; omega)).trans HY4.out)
  have HVN5 := Lib.hid (Rep.acc_later HVN4.out hb5)
  have HA5 := Lib.hid (Rep.acc_later HA4.out hb5)
  have HP5 := Lib.hid (Rep.acc_later HP4.out hb5)
  have HO5 := Lib.hid (HO4.out.trans (Only.of_below hb5))
  have HZ5 := Lib.hid hb5.size
  have HV5 := Lib.hid hu5
  obtain ⟨A5, c5, rfl, _, _, _⟩ := Rep.val_list hu5
  have hfll : (fillOf fl (pg.take nn)).length = fl.length := fillOf_len _ _
  rw [hfll]
  have e7 := cell_row HL5.out.row 18
  have x7 := HL5.out.bx.cell
  have HPL5 := Lib.hid (show (pagesOf fl).length ≤ 1000000 from Nat.le_trans (pagesOf_len2 fun f hf => (HFO.out.2 f hf).1) (by have := HFO.out.1; omega))
  have HSM5 := Lib.hid (show SmallRefs 1000000 r1 by rw [← HR1.out]; exact takeFn_small (by decide) HSM.out _)
  have HPV5 := Lib.hid (show (Rep.int .i64).list.val (fun b => w3.heap.size ≤ b) w5 (.slice A4 pk c4) (pagesOf fl) by rw [← HPK.out]; exact Rep.acc_fresh HP5.out)
  have HRL5 := Lib.hid (show r1.length ≤ 1000000 by rw [← HR1.out, takeFn_len]; exact HR.out)
  clear hu5 hb5 hpat
  go_wp2_with fail
  refine (ahold_calls HL5.out.al HPV5.out HPL5.out HRL5.out (by have := HBA.out; have := HB2.out.size; have := HZ3.out; have := HZ4.out; have := HZ5.out; omega) (by decide) HSM5.out).mono ?_
  rintro e w6 ⟨rfl, ⟨v6, hal6, hv6⟩, ho6⟩
  clear e7 x7
  have hA6 : A < W.heap.size := HND.out.2.2.2.2.2.2.1
  have HL6 := Lib.hid (HL5.out.only ho6 (fun b e => by rw [show b = A from e]; exact HND.out.2.1) (fun e => HND.out.2.2.1 e) (fun e => by have e : W.heap.size = A := e; omega) hal6)
  have hW2 := HB2.out.size
  have hne6 : ∀ b, W.heap.size ≤ b → b < w5.heap.size → w6.heap[b]? = w5.heap[b]? := fun b h1 h2 => ho6.block b h2 (fun e => by have e : b = A := e; omega)
  have HY6 := Lib.hid ((hne6 _ (Nat.le_succ _) (by have := HZ2.out; have := HZ3.out; have := HZ4.out; have := HZ5.out; have := HSZ.out; omega)).trans HY5.out)
  have HVN6 := Lib.hid (Rep.acc_keep (Q' := fun b => W1.heap.size ≤ b) (fun b hb hl => hne6 b (by
    have := HSZ.out
    rcases hb with hb | hb
    · have hb : W1.heap.size ≤ b := hb; omega
    · have := (Rep.acc_own HVN5.out b hb).1; omega) hl.lt) (fun _ h _ => h) HVN5.out)
  have HA6 := Lib.hid (Rep.acc_keep (Q' := fun b => w2.heap.size ≤ b) (fun b hb hl => hne6 b (by
    rcases hb with hb | hb
    · have hb : w2.heap.size ≤ b := hb; omega
    · have := (Rep.acc_own HA5.out b hb).1; omega) hl.lt) (fun _ h _ => h) HA5.out)
  have HV6 := Lib.hid (Rep.val_keep (Q' := fun b => w4.heap.size ≤ b) (fun b hq hl => ⟨hq, hne6 b (by have hq : w4.heap.size ≤ b := hq; have := HZ3.out; have := HZ4.out; omega) hl.lt⟩) HV5.out)
  have HO6 := Lib.hid (show Only (fun b => v.ownBlock = some b ∨ b = A) W w6 from (HO5.out.wid (fun b h => .inl h)).trans (ho6.wid (fun b h => .inr h)))
  have HV6O := Lib.hid hv6
  have HZ6 := Lib.hid ho6.size
  have HNE6 := Lib.hid hne6
  clear ho6 hal6 hv6 hne6 hA6 hW2
  obtain ⟨g3, rfl⟩ : ∃ g3, A3 = some ⟨g3, 0, none⟩ := by
    have hpl := HPL.out
    rcases Rep.acc_root HA6.out with ⟨_, h⟩ | ⟨g, n, c, h, _, _⟩
    · rw [h] at hpl; simp at hpl; omega
    · exact ⟨g, by injection h⟩
  have iw : IntKind.i64.wrap (x.cur.gen + 1) = x.cur.gen + 1 := IntWalk.i64_in _ ⟨by have := HG.out; omega, by have := HG.out; omega⟩
  go_wp2_with fail
  refine wp_region_held_drew (S := fun V => Below w6.heap.size w6 V) (by kernel_rfl) ((Below.refl _ _).drew) (fun s0 => ?_)
  obtain ⟨v1, hv1⟩ : ∃ V, V = w6.drew := ⟨_, rfl⟩
  rw [← hv1] at s0 ⊢
  have t1 : Below w6.heap.size w6 v1 := s0
  clear hv1 s0
  refine tkH (i := 0) (v := .pointer (some ⟨S, 0, none⟩)) rfl (Or.inl ⟨by rfl, fun w' h => by have x0 := (show Boxed w' W.heap.size 43 (.pointer (some ⟨S, 0, none⟩)) from ((h : Below w6.heap.size w6 w').block _ HL6.out.bx.lt).trans HL6.out.bx).cell; go_simp⟩) t1 ?_
  go_simp
  refine tkHV (i := 1) (v := .pointer (some ⟨S, 0, none⟩)) rfl t1 ?_
  go_simp
  refine tkHV (i := 2) (v := .pointer (some ⟨S, 6, none⟩)) rfl t1 ?_
  go_simp
  refine tkH (i := 3) (v := .int .i64 x.epoch) rfl (Or.inl ⟨by rfl, fun w' h => by have x0 := cell_row (row_call (h : Below w6.heap.size w6 w') HL6.out.row) 6; go_simp⟩) t1 ?_
  go_simp
  refine tkH (i := 4) (v := .pointer (some ⟨S, 0, none⟩)) rfl (Or.inl ⟨by rfl, fun w' h => by have x0 := (show Boxed w' W.heap.size 43 (.pointer (some ⟨S, 0, none⟩)) from ((h : Below w6.heap.size w6 w').block _ HL6.out.bx.lt).trans HL6.out.bx).cell; go_simp⟩) t1 ?_
  go_simp
  refine tkHV (i := 5) (v := .pointer (some ⟨S, 0, none⟩)) rfl t1 ?_
  go_simp
  refine tkHV (i := 6) (v := .pointer (some ⟨S, 8, none⟩)) rfl t1 ?_
  go_simp
  refine tkHV (i := 7) (v := .pointer (some ⟨S, 9, none⟩)) rfl t1 ?_
  go_simp
  refine tkH (i := 8) (v := .int .i64 x.cur.gen) rfl (Or.inl ⟨by rfl, fun w' h => by have x0 := cell_row (row_call (h : Below w6.heap.size w6 w') HL6.out.row) 9; go_simp⟩) t1 ?_
  go_simp
  refine tkHV (i := 9) (v := .int .i64 (x.cur.gen + 1)) rfl t1 ?_
  go_simp
  refine tkH (i := 10) (v := .pointer (some ⟨S, 0, none⟩)) rfl (Or.inl ⟨by rfl, fun w' h => by have x0 := (show Boxed w' W.heap.size 43 (.pointer (some ⟨S, 0, none⟩)) from ((h : Below w6.heap.size w6 w').block _ HL6.out.bx.lt).trans HL6.out.bx).cell; go_simp⟩) t1 ?_
  go_simp
  refine tkHV (i := 11) (v := .pointer (some ⟨S, 0, none⟩)) rfl t1 ?_
  go_simp
  refine tkHV (i := 12) (v := .pointer (some ⟨S, 1, none⟩)) rfl t1 ?_
  go_simp
  refine tkHV (i := 13) (v := .pointer (some ⟨S, 1, none⟩)) rfl t1 ?_
  go_simp
  refine tkH (i := 14) (v := .int .i64 x.log) rfl (Or.inl ⟨by rfl, fun w' h => by have x0 := cell_row (row_call (h : Below w6.heap.size w6 w') HL6.out.row) 1; go_simp⟩) t1 ?_
  go_simp
  refine tkH (i := 15) (v := .pointer (some ⟨S, 0, none⟩)) rfl (Or.inl ⟨by rfl, fun w' h => by have x0 := (show Boxed w' W.heap.size 43 (.pointer (some ⟨S, 0, none⟩)) from ((h : Below w6.heap.size w6 w').block _ HL6.out.bx.lt).trans HL6.out.bx).cell; go_simp⟩) t1 ?_
  go_simp
  refine tkHV (i := 16) (v := .pointer (some ⟨S, 0, none⟩)) rfl t1 ?_
  go_simp
  refine tkHV (i := 17) (v := .pointer (some ⟨S, 1, none⟩)) rfl t1 ?_
  go_simp
  refine tkHV (i := 18) (v := .pointer (some ⟨S, 2, none⟩)) rfl t1 ?_
  go_simp
  refine tkH (i := 19) (v := .int .i64 x.pages) rfl (Or.inl ⟨by rfl, fun w' h => by have x0 := cell_row (row_call (h : Below w6.heap.size w6 w') HL6.out.row) 2; go_simp⟩) t1 ?_
  go_simp
  refine tkHV (i := 20) (v := .int .i64 head) rfl t1 ?_
  go_simp
  refine tkHV (i := 21) (v := .int .i64 seq) rfl t1 ?_
  go_simp
  refine tkHV (i := 22) (v := .int .i64 d) rfl t1 ?_
  go_simp
  refine tkHV (i := 23) (v := .slice (some ⟨g3, 0, none⟩) (nn + pc) c3) rfl t1 ?_
  go_simp
  refine tkHV (i := 24) (v := .slice An nn cn) rfl t1 ?_
  go_simp
  refine tkHV (i := 25) (v := .int .i64 nn) rfl t1 ?_
  go_simp
  refine tkH (i := 26) (v := .slice (some ⟨g3, nn, none⟩) pc (c3 - nn)) rfl (Or.inl ⟨by rfl, fun w' _ => by go_simp; rw [if_neg (show ¬ c3 = nn by omega), if_pos (show (nn : Int) ≤ (nn : Int) + (pc : Int) by omega)]⟩) t1 ?_
  go_simp
  refine tkHV (i := 27) (v := .agg #[.int .i64 x.epoch, .int .i64 (x.cur.gen + 1), .int .i64 x.log, .int .i64 x.pages, .int .i64 head, .int .i64 seq, .int .i64 d, .slice (some ⟨g3, nn, none⟩) pc (c3 - nn)]) rfl t1 ?_
  go_simp
  refine wpAnyH_all (rs := [28]) (by kernel_rfl) (by simp) ?_
  intro i2 hi2
  obtain rfl : i2 = 28 := by simpa using hi2
  clear hi2
  refine wpOp_step rfl (fun K hK => ?_)
  go_simp
  have t2 : Below w6.heap.size w6 (v1.alloc (.cells #[.int .i64 0, .int .i64 0, .int .i64 0, .int .i64 0, .int .i64 0, .int .i64 0, .int .i64 0, .slice none 0 0] 37)) := t1.alloc t1.size _
  refine hK _ _ ⟨t2, ?_⟩
  clear hK K
  refine wpAnyH_all (rs := [29]) (by kernel_rfl) (by simp) ?_
  intro i2 hi2
  obtain rfl : i2 = 29 := by simpa using hi2
  clear hi2
  refine wpOp_step rfl (fun K hK => ?_)
  go_simp
  have t3 : Below w6.heap.size w6 (v1.alloc (.cells #[.int .i64 x.epoch, .int .i64 (x.cur.gen + 1), .int .i64 x.log, .int .i64 x.pages, .int .i64 head, .int .i64 seq, .int .i64 d, .slice (some ⟨g3, nn, none⟩) pc (c3 - nn)] 37)) := t1.alloc t1.size _
  refine hK _ _ ⟨t3, ?_⟩
  clear hK K
  refine wpAnyH_done (by kernel_rfl) ?_ _
  obtain ⟨Z, hZ⟩ : ∃ Z, v1.heap.size = Z := ⟨_, rfl⟩
  obtain ⟨w7, hw7⟩ : ∃ w7, v1.alloc (.cells #[.int .i64 x.epoch, .int .i64 (x.cur.gen + 1), .int .i64 x.log, .int .i64 x.pages, .int .i64 head, .int .i64 seq, .int .i64 d, .slice (some ⟨g3, nn, none⟩) pc (c3 - nn)] 37) = w7 := ⟨_, rfl⟩
  have hz7 : w7.heap[Z]? = some (.cells #[.int .i64 x.epoch, .int .i64 (x.cur.gen + 1), .int .i64 x.log, .int .i64 x.pages, .int .i64 head, .int .i64 seq, .int .i64 d, .slice (some ⟨g3, nn, none⟩) pc (c3 - nn)] 37 (0, 0)) := by rw [← hw7, ← hZ]; exact heap_alloc_new _ _
  have hZ1 : w6.heap.size ≤ Z := by rw [← hZ]; exact t1.size
  have hZ2 : Z < w7.heap.size := by rw [← hw7, ← hZ]; simp
  rw [hw7] at t3 ⊢
  try rw [hZ]
  have HL7 := Lib.hid (HL6.out.call t3)
  have HY7 := Lib.hid (row_call t3 HY6.out)
  have HVN7 := Lib.hid (Rep.acc_later HVN6.out t3)
  have HA7 := Lib.hid (Rep.acc_later HA6.out t3)
  have HV7 := Lib.hid (Rep.val_keep (Q' := fun b => w4.heap.size ≤ b) (fun b hq hl => ⟨hq, t3.block b hl.lt⟩) HV6.out)
  have HO7 := Lib.hid (HO6.out.trans (Only.of_below t3))
  have HZZ := Lib.hid (And.intro hz7 (And.intro hZ1 hZ2))
  have HN6 := Lib.hid (show ∀ b, (Value.slice An nn cn).ownBlock = some b → W1.heap.size ≤ b ∧ b < w2.heap.size from fun b hb => Rep.acc_own HVN.out b (by rw [HNN.out]; exact hb))
  have HB67 := Lib.hid t3
  clear t1 t2 t3 hw7 hz7 hZ1 hZ2 hZ
  obtain ⟨SS0, hSS⟩ : ∃ SS0 : World → Prop, SS0 = fun V => Only (fun b => (Value.slice An nn cn).ownBlock = some b ∨ D b ∨ b = W.heap.size + 1) w7 V := ⟨_, rfl⟩
  have SI := Lib.hid (show ∀ V, Only (fun b => (Value.slice An nn cn).ownBlock = some b ∨ D b ∨ b = W.heap.size + 1) w7 V → SS0 V from fun V h => by rw [hSS]; exact h)
  have SX := Lib.hid (show ∀ V, SS0 V → V.cell? ⟨W.heap.size, 0, none⟩ = some (.pointer (some ⟨S, 0, none⟩)) ∧ V.heap[Z]? = some (.cells #[.int .i64 x.epoch, .int .i64 (x.cur.gen + 1), .int .i64 x.log, .int .i64 x.pages, .int .i64 head, .int .i64 seq, .int .i64 d, .slice (some ⟨g3, nn, none⟩) pc (c3 - nn)] 37 (0, 0)) from fun V h => by
    rw [hSS] at h
    have hsz := HSZ.out
    have hx : Boxed V W.heap.size 43 (.pointer (some ⟨S, 0, none⟩)) := row_only h HL7.out.bx (fun e => by
      rcases e with e | e | e
      · have := (HN6.out W.heap.size e).1; omega
      · have := HDD.out W.heap.size e; omega
      · omega)
    refine ⟨hx.cell, row_only h HZZ.out.1 (fun e => ?_)⟩
    have h1 := HZZ.out.2.1
    have h2 := HB2.out.size
    have h3 := HZ3.out
    have h4 := HZ4.out
    have h5 := HZ5.out
    have h6 := HZ6.out
    rcases e with e | e | e
    · have := (HN6.out Z e).2; omega
    · have := HDD.out Z e; omega
    · have := HZ2.out; omega)
  have hS0 : SS0 w7.drew := SI.out _ (Only.refl _ _).drw
  clear hSS iw
  go_wp2_with fail
  have HQD := Lib.hid (show (dirFlows (fillOf fl (pg.take nn))).length = d by rw [fillOf_dir HFP.out]; exact HD2.out)
  have HQO := Lib.hid (fillOf_ok (pages := pg.take nn) HFO.out)
  obtain ⟨q, hq⟩ : ∃ q, fillOf fl (pg.take nn) = q := ⟨_, rfl⟩
  rw [hq] at HQD HQO HV7
  have HQ := Lib.hid hq
  have hql : q.length = fl.length := by rw [← hq]; exact fillOf_len _ _
  rw [hq] at hfll
  clear hq
  refine wp_region_held_drew (S := fun V => SS0 V) (by kernel_rfl) (hS0) (fun s0 => ?_)
  obtain ⟨v2, hv1⟩ : ∃ V, V = w7.drew := ⟨_, rfl⟩
  rw [← hv1] at s0 ⊢
  have o2 : Only (fun b => (Value.slice An nn cn).ownBlock = some b) w7 v2 := by rw [hv1]; exact (Only.refl _ _).drw
  have b2 : Below w7.heap.size w7 v2 := by rw [hv1]; exact (Below.refl _ _).drew
  have s2 := s0
  clear hv1 s0 hS0
  refine tkH (i := 0) (v := .agg #[.int .i64 x.epoch, .int .i64 (x.cur.gen + 1), .int .i64 x.log, .int .i64 x.pages, .int .i64 head, .int .i64 seq, .int .i64 d, .slice (some ⟨g3, nn, none⟩) pc (c3 - nn)]) rfl (Or.inl ⟨by rfl, fun w' h => by have x := (SX.out w' h).2; have x0 := cell_row x 0; have x1 := cell_row x 1; have x2 := cell_row x 2; have x3 := cell_row x 3; have x4 := cell_row x 4; have x5 := cell_row x 5; have x6 := cell_row x 6; have x7 := cell_row x 7; go_simp⟩) s2 ?_
  go_simp
  refine tkHV (i := 1) (v := .slice A5 fl.length c5) rfl s2 ?_
  go_simp
  refine tkH (i := 2) (v := .pointer (some ⟨S, 0, none⟩)) rfl (Or.inl ⟨by rfl, fun w' h => by have x0 := (SX.out w' h).1; go_simp⟩) s2 ?_
  go_simp
  refine tkHV (i := 3) (v := .slice (some ⟨g3, 0, none⟩) (nn + pc) c3) rfl s2 ?_
  go_simp
  refine tkHV (i := 4) (v := .slice An nn cn) rfl s2 ?_
  go_simp
  refine tkHV (i := 5) (v := .slice A5 fl.length c5) rfl s2 ?_
  go_simp
  refine wpAnyH_all (rs := [6]) (by kernel_rfl) (by simp) ?_
  intro i2 hi2
  obtain rfl : i2 = 6 := by simpa using hi2
  clear hi2
  refine wpOp_step rfl (fun K hK => ?_)
  go_simp
  have hv8 := Rep.val_keep (Q' := fun b => w4.heap.size ≤ b) (fun b hq hl => ⟨hq, b2.block b hl.lt⟩) HV7.out
  rw [hql] at hv8
  refine (entries_calls hv8 (by rw [hql]; exact Nat.le_trans HFO.out.1 (by decide)) (fun f hf => ⟨Nat.le_trans (HQO.out.2 f hf).2 (by decide), Nat.le_trans (HQO.out.2 f hf).1 (by decide)⟩)).mono ?_
  rintro e w8 ⟨u8, rfl, hu8, hb8⟩
  have o8 := o2.trans (Only.of_below hb8)
  have b8 := b2.trans (hb8.mono b2.size)
  have s8 := SI.out _ (o8.wid fun b h => .inl h)
  have HU8 := Lib.hid hu8
  clear hv8 hu8 hb8
  refine hK _ _ ⟨s8, ?_⟩
  clear hK K
  refine wpAnyH_all (rs := [7]) (by kernel_rfl) (by simp) ?_
  intro i2 hi2
  obtain rfl : i2 = 7 := by simpa using hi2
  clear hi2
  refine wpOp_step rfl (fun K hK => ?_)
  go_simp
  refine (dput_calls HU8.out (Nat.le_trans (dirFlows_len HQO.out) (by decide)) (by rw [List.length_map, hql]; exact Nat.le_trans HFO.out.1 (by decide))).mono ?_
  rintro e w9 ⟨u9, rfl, hu9, hb9⟩
  have o9 := o8.trans (Only.of_below hb9)
  have b9 := b8.trans (hb9.mono b8.size)
  have s9 := SI.out _ (o9.wid fun b h => .inl h)
  have HU9 := Lib.hid hu9
  clear hu9 hb9
  refine hK _ _ ⟨s9, ?_⟩
  clear hK K
  refine wpAnyH_all (rs := [8]) (by kernel_rfl) (by simp) ?_
  intro i2 hi2
  obtain rfl : i2 = 8 := by simpa using hi2
  clear hi2
  refine wpOp_step rfl (fun K hK => ?_)
  go_simp
  refine (cut_calls HU9.out (by have := HQD.out; unfold dirFlows at this; rw [this]; have e := HPC.out; unfold pageCount at e; rw [if_neg (by omega)] at e; omega)).mono ?_
  rintro e w10 ⟨u10, rfl, hu10, hb10⟩
  have o10 := o9.trans (Only.of_below hb10)
  have b10 := b9.trans (hb10.mono b9.size)
  have s10 := SI.out _ (o10.wid fun b h => .inl h)
  have HU10 := Lib.hid hu10
  have HZ10 := Lib.hid b9.size
  clear hu10 hb10
  refine hK _ _ ⟨s10, ?_⟩
  clear hK K
  refine wpAnyH_all (rs := [9]) (by kernel_rfl) (by simp) ?_
  intro i2 hi2
  obtain rfl : i2 = 9 := by simpa using hi2
  clear hi2
  refine wpOp_step rfl (fun K hK => ?_)
  have hpz : (cut (dirBytes (q.map entryOf))).length = pc := by
    rw [cut_length]
    have := HQD.out
    unfold dirFlows at this
    rw [this]
    have e := HPC.out
    unfold pageCount at e
    rw [if_neg (by omega)] at e
    omega
  have hvn10 := Rep.acc_later HVN7.out (b10.mono (Nat.le_refl _))
  have hn6 := HN6.out
  have hsz6 : w2.heap.size ≤ w7.heap.size := by have h3 := HZ3.out; have h4 := HZ4.out; have h5 := HZ5.out; have h1 := HZZ.out.2.1; have h2 := HZZ.out.2.2; have h6 := HZ6.out; omega
  refine step_spread rfl _ _ 28 rfl (.slice none 0 0) 1 24 Tryz.underlying28 info36 rfl (by decide) rfl _ (newsOf fl) (by rw [HNN.out]; exact rfl) hvn10 _ (cut (dirBytes (q.map entryOf))) (by exact rfl) HU10.out (fun b hb _ => ⟨by have hb : w9.heap.size ≤ b := hb; have h1 := HZ10.out; have h2 := HB2.out.size; have h3 := HZ2.out; have h4 := HZ3.out; have h5 := HZ4.out; have h6 := HZ5.out; show W1.heap.size ≤ b; omega, fun e => by have hb : w9.heap.size ≤ b := hb; have h1 := (hn6 b (by rw [← HNN.out]; exact e)).2; have h2 := HZ10.out; omega⟩) (by rw [HNN.out, hpz]; unfold maxLen; omega) (by rw [HNN.out, hpz]; omega) (by have h1 := b10.size; have h3 := HZ2.out; have h4 := HZ3.out; have h5 := HZ4.out; have h6 := HZ5.out; omega) (fun v11 w11 hacc11 hgr11 => ?_)
  rw [HNN.out] at hgr11
  have o11 := o10.trans (show Only (fun b => (Value.slice An nn cn).ownBlock = some b) w10 w11 from ⟨hgr11.os, hgr11.tape, hgr11.output, hgr11.size, fun b hl hg => hgr11.block b hl (fun e => hg e.symm)⟩)
  have s11 := SI.out _ (o11.wid fun b h => .inl h)
  have HPZ := Lib.hid hpz
  have HA11 := Lib.hid hacc11
  have hz11 := hgr11.size
  clear hacc11 hpz hvn10
  refine hK _ _ ⟨s11, ?_⟩
  clear hK K
  refine wpAnyH_all (rs := [10]) (by kernel_rfl) (by simp) ?_
  intro i2 hi2
  obtain rfl : i2 = 10 := by simpa using hi2
  clear hi2
  refine wpOp_step rfl (fun K hK => ?_)
  go_simp
  have hlt := HND.out
  have HL11 := Lib.hid (HL7.out.only o11 (fun b e hd => by have h1 := (HN6.out b e).1; have h2 := HDD.out b hd; have h3 := HSZ.out; omega) (fun e => by have h1 := (HN6.out S e).1; have h2 := hlt.2.2.2.2.2.1; have h3 := HSZ.out; omega) (fun e => by have h1 := (HN6.out W.heap.size e).1; have h3 := HSZ.out; omega)
    (HL7.out.al.keep (o11.block A HL7.out.al.lt (fun e => by have h1 := (HN6.out A e).1; have h2 := hlt.2.2.2.2.2.2.1; have h3 := HSZ.out; omega)) (fun b hb => o11.block b (Rep.acc_own HL7.out.al.acc b hb).2 (fun e => by
      rcases HV6O.out with h | h
      · rw [h] at hb; have h1 := hlt.2.2.2.2.2.2.2 b hb; have h2 := (HN6.out b e).1; have h3 := HSZ.out; omega
      · have h1 := h b hb; have h2 := (HN6.out b e).2; have h3 := HZ3.out; have h4 := HZ4.out; have h5 := HZ5.out; omega))))
  have HPG11 := Lib.hid (show (Rep.int .i64).list.val (fun b => w2.heap.size ≤ b) w11 (.slice (some ⟨g3, 0, none⟩) (nn + pc) c3) pg by
    rw [← HPL.out]
    exact Rep.val_keep (Q' := fun b => w2.heap.size ≤ b) (fun b hq hl => by
      have hge : w2.heap.size ≤ b := by
        rcases hq with hq | hq
        · exact hq
        · exact (Rep.acc_own HA7.out b hq).1
      exact ⟨hge, o11.block b hl.lt (fun e => by have h2 := (HN6.out b e).2; omega)⟩) (Rep.acc_val HA7.out))
  have HPI11 := Lib.hid (show Rep.byte.list.list.val (fun b => W1.heap.size ≤ b) w11 v11 (newsOf fl ++ cut (dirBytes (q.map entryOf))) from Rep.val_keep (fun b hq hl => by
    rcases hq with hq | hq
    · exact ⟨hq, rfl⟩
    · exact ⟨(Rep.acc_own HA11.out b hq).1, rfl⟩) (Rep.acc_val HA11.out))
  have HLEN := Lib.hid (show (newsOf fl ++ cut (dirBytes (q.map entryOf))).length = nn + pc by rw [List.length_append, HNN.out, HPZ.out])
  have row := HL11.out.row
  refine (swrite_calls HL11.out.dev (by rw [HLEN.out]; have := HN.out; omega) hlt.1 (cell_row row 0) (cell_row row 1) (cell_row row 2) (cell_row row 3) (cell_row row 4) (cell_row row 5) (cell_row row 6) HWF.out.1 HWF.out.2.1 HWF.out.2.2 HPG11.out (fun b hb hd => by have hb : w2.heap.size ≤ b := hb; have h1 := HDD.out b hd; have h2 := HB2.out.size; omega) HPI11.out (fun b hb hd => by have hb : W1.heap.size ≤ b := hb; have h1 := HDD.out b hd; have h2 := HSZ.out; omega) (by rw [HLEN.out, HPL.out]; exact Nat.le_refl _)).mono ?_
  rintro e w12 ⟨rfl, hD12, ho12⟩
  have o12 := (o11.wid (G := fun b => (Value.slice An nn cn).ownBlock = some b ∨ D b) fun b h => .inl h).trans (ho12.wid fun b h => .inr h)
  have s12 := SI.out _ (o12.wid fun b h => h.elim .inl fun h => .inr (.inl h))
  obtain ⟨rr, hrr⟩ : ∃ rr, writeS (conf27 x.log x.pages) x.epoch pg (newsOf fl ++ cut (dirBytes (q.map entryOf))) st = rr := ⟨_, rfl⟩
  rw [hrr] at hD12 ⊢
  have HRR := Lib.hid hrr
  clear hrr
  have HD12 := Lib.hid hD12
  have HO12 := Lib.hid ho12
  have HY12 := Lib.hid (row_only o12 HY7.out (fun e => by
    have h3 := HSZ.out
    rcases e with e | e
    · have h1 := (HN6.out (W.heap.size + 1) e).1; omega
    · have h1 := HDD.out (W.heap.size + 1) e; omega))
  clear row hlt hD12 ho12
  refine hK _ _ ⟨s12, ?_⟩
  clear hK K
  have hy := HY12.out
  obtain ⟨y0, z0, y1, z1, y2, z2, y3, z3, y4, z4, y5, z5, y6, z6, y7, z7⟩ := rw8 hy
  clear hy
  refine wpAnyH_all (rs := [11]) (by kernel_rfl) (by simp) ?_
  intro i2 hi2
  obtain rfl : i2 = 11 := by simpa using hi2
  clear hi2
  refine wpOp_step rfl (fun K hK => ?_)
  go_simp
  obtain ⟨w13, hw13⟩ : ∃ w13, ((((((((w12.setCell ⟨W.heap.size + 1, 0, none⟩ (.int .i64 x.epoch)).setCell ⟨W.heap.size + 1, 1, none⟩ (.int .i64 (x.cur.gen + 1))).setCell ⟨W.heap.size + 1, 2, none⟩ (.int .i64 x.log)).setCell ⟨W.heap.size + 1, 3, none⟩ (.int .i64 x.pages)).setCell ⟨W.heap.size + 1, 4, none⟩ (.int .i64 head)).setCell ⟨W.heap.size + 1, 5, none⟩ (.int .i64 seq)).setCell ⟨W.heap.size + 1, 6, none⟩ (.int .i64 d)).setCell ⟨W.heap.size + 1, 7, none⟩ (.slice (some ⟨g3, nn, none⟩) pc (c3 - nn))) = w13 := ⟨_, rfl⟩
  have o0 : Only (fun b => (Value.slice An nn cn).ownBlock = some b ∨ D b ∨ b = W.heap.size + 1) w7 w12 := o12.wid fun b h => h.elim .inl fun h => .inr (.inl h)
  have o13 : Only (fun b => (Value.slice An nn cn).ownBlock = some b ∨ D b ∨ b = W.heap.size + 1) w7 w13 := by rw [← hw13]; exact Only.put (Only.put (Only.put (Only.put (Only.put (Only.put (Only.put (Only.put (o0) (.inr (.inr rfl))) (.inr (.inr rfl))) (.inr (.inr rfl))) (.inr (.inr rfl))) (.inr (.inr rfl))) (.inr (.inr rfl))) (.inr (.inr rfl))) (.inr (.inr rfl))
  have hy13 : w13.heap[W.heap.size + 1]? = some (.cells #[.int .i64 x.epoch, .int .i64 (x.cur.gen + 1), .int .i64 x.log, .int .i64 x.pages, .int .i64 head, .int .i64 seq, .int .i64 d, .slice (some ⟨g3, nn, none⟩) pc (c3 - nn)] 37 (0, 0)) := by rw [← hw13]; exact (heap_setRow (heap_setRow (heap_setRow (heap_setRow (heap_setRow (heap_setRow (heap_setRow (heap_setRow (HY12.out))))))))).trans (by simp)
  have HB13 := Lib.hid (show ∀ b, b ≠ W.heap.size + 1 → w13.heap[b]? = w12.heap[b]? from fun b hb => by rw [← hw13]; simp only [Below.heap_setCell _ _ _ _ (show b ≠ (⟨W.heap.size + 1, 0, none⟩ : Addr).block from hb), Below.heap_setCell _ _ _ _ (show b ≠ (⟨W.heap.size + 1, 1, none⟩ : Addr).block from hb), Below.heap_setCell _ _ _ _ (show b ≠ (⟨W.heap.size + 1, 2, none⟩ : Addr).block from hb), Below.heap_setCell _ _ _ _ (show b ≠ (⟨W.heap.size + 1, 3, none⟩ : Addr).block from hb), Below.heap_setCell _ _ _ _ (show b ≠ (⟨W.heap.size + 1, 4, none⟩ : Addr).block from hb), Below.heap_setCell _ _ _ _ (show b ≠ (⟨W.heap.size + 1, 5, none⟩ : Addr).block from hb), Below.heap_setCell _ _ _ _ (show b ≠ (⟨W.heap.size + 1, 6, none⟩ : Addr).block from hb), Below.heap_setCell _ _ _ _ (show b ≠ (⟨W.heap.size + 1, 7, none⟩ : Addr).block from hb)])
  have HO1213 := Lib.hid (show Only (fun b => b = W.heap.size + 1) w12 w13 by rw [← hw13]; exact Only.put (Only.put (Only.put (Only.put (Only.put (Only.put (Only.put (Only.put (Only.refl _ _) rfl) rfl) rfl) rfl) rfl) rfl) rfl) rfl)
  rw [hw13]
  have s13 := SI.out _ o13
  have HO13 := Lib.hid o13
  have HY13 := Lib.hid hy13
  refine hK _ _ ⟨s13, ?_⟩
  clear hK K hw13 o0 y0 z0 y1 z1 y2 z2 y3 z3 y4 z4 y5 z5 y6 z6 y7 z7
  refine tkHV (i := 12) (v := .slice A5 fl.length c5) rfl s13 ?_
  go_simp
  refine tkHV (i := 13) (v := .int .i64 rr.2) rfl s13 ?_
  go_simp
  refine wpAnyH_done (by kernel_rfl) ?_ _
  go_wp2_with fail
  try simp only [Exit.inBlock, Exit.then]
  refine bodyPost_ret (results_ctt rfl _ _ (W.heap.size + 1) 37 _ (0, 0) _ rfl HY13.out Tryz.underlying37 rfl (by kernel_rfl)) rfl ?_
  have hw6 := HZ6.out
  have hw7a := HZZ.out.2.1
  have hw7b := HZZ.out.2.2
  have hw5 := HZ5.out
  have hw4 := HZ4.out
  have hw3 := HZ3.out
  have hw2 := HZ2.out
  have hw1 := HSZ.out
  have hnd := HND.out
  have hkp : ∀ b, w2.heap.size ≤ b → b < w7.heap.size → w13.heap[b]? = w7.heap[b]? := fun b h1 h2 => HO13.out.block b h2 (fun e => by
    rcases e with e | e | e
    · have := (HN6.out b e).2; omega
    · have := HDD.out b e; omega
    · omega)
  have hz11' : w7.heap.size ≤ w11.heap.size := o11.size
  obtain ⟨D', hD', hDD'⟩ := HD12.out
  have hno : ∀ b, v6.ownBlock = some b → ¬ D b ∧ b ≠ W.heap.size + 1 := fun b hb => by
    rcases HV6O.out with h | h
    · rw [h] at hb
      have h1 := hnd.2.2.2.2.2.2.2 b hb
      exact ⟨hnd.2.2.2.2.1 b hb, by omega⟩
    · have h1 := h b hb
      exact ⟨fun hd => by have := HDD.out b hd; omega, by omega⟩
  have hpl2 : layPages refs (nn + pc) = pg := HPG.out
  have hq2 : layFlows fl pg = q := by unfold layFlows; rw [HNN.out]; exact HQ.out
  have hrr2 : layWrite x fl pg st = rr := by unfold layWrite layPieces; rw [hq2]; exact HRR.out
  have hkp5 : ∀ b, w2.heap.size ≤ b → b < w5.heap.size → w13.heap[b]? = w5.heap[b]? := fun b h1 h2 => (hkp b h1 (by omega)).trans ((HB67.out.block b (by omega)).trans (HNE6.out b (by omega) h2))
  rw [HK.out, hpl2]
  refine ⟨_, _, w5.heap.size, w11.heap.size, D', v6, by rw [hrr2]; rfl, ?_⟩
  refine ⟨by omega, by omega, Nat.le_trans HO12.out.size HO1213.out.size, ?_, ?_, ?_, ?_, ?_, ?_, ?_, ?_⟩
  · rw [hpl2]
    have hdl2 : (laySuper x fl pg head seq).dir.length = pc := by
      show (pg.drop (newsOf fl).length).length = pc
      rw [List.length_drop, HPL.out, HNN.out]; omega
    have hl2 : (laySuper x fl pg head seq).long = (d : Int) := by show (((dirFlows fl).length : Nat) : Int) = d; rw [HD2.out]
    have hat : (Rep.int .i64).At (fun b => W.heap.size ≤ b ∧ b < w5.heap.size) w13 (some ⟨g3, 0, none⟩) pg := Rep.At.keep (w := w5) (fun b hq hl => by
      have hge : w2.heap.size ≤ b := by
        rcases hq with hq | hq
        · exact hq
        · exact (Rep.acc_own HA5.out b hq).1
      exact ⟨⟨by omega, hl.lt⟩, hkp5 b hge hl.lt⟩) (Rep.val_slice (Rep.acc_val HA5.out)).2.2
    have hdr := Rep.At.drop hat (n := nn) (by rw [HPL.out]; omega)
    have hdr2 : (Rep.int .i64).At (fun b => W.heap.size ≤ b ∧ b < w5.heap.size) w13 (some ⟨g3, nn, none⟩) (laySuper x fl pg head seq).dir := by
      have e : (0 + nn * (Rep.int .i64).size) = nn := by show 0 + nn * 1 = nn; omega
      rw [e] at hdr
      show (Rep.int .i64).At _ w13 _ (pg.drop (newsOf fl).length)
      rw [HNN.out]; exact hdr
    have e := rSuper_agg (x := laySuper x fl pg head seq) HWF.out.1 (wf_i64 (by show _ ≤ x.cur.gen + 1; have := HG.out; omega) (by show x.cur.gen + 1 ≤ _; have := HG.out; omega)) HWF.out.2.1 HWF.out.2.2 HWH.out.1 HWH.out.2 (by rw [hl2]; exact wf_i64 (by omega) (by omega)) (c_dir := c3 - nn) ⟨by rw [hdl2]; omega, by unfold maxLen; omega, hdr2⟩
    rw [hdl2, hl2] at e
    exact e
  · rw [hpl2, hq2]
    have e := Rep.val_keep (Q' := fun b => W.heap.size ≤ b ∧ b < w5.heap.size) (fun b hq hl => by
      have hq : w4.heap.size ≤ b := hq
      exact ⟨⟨by omega, hl.lt⟩, hkp5 b (by omega) hl.lt⟩) HV5.out
    rw [HQ.out, hql] at e
    exact e
  · show AllocAt w13 A base ((addS 1 (allTo takeFn refs (nn + pc)).1 (pagesOf fl)).getD (allTo takeFn refs (nn + pc)).1) v6
    rw [HR1.out]
    refine HL11.out.al.keep ?_ (fun b hb => ?_)
    · exact (HB13.out A (by omega)).trans (HO12.out.block A HL11.out.al.lt hnd.2.1)
    · exact (HB13.out b (hno b hb).2).trans (HO12.out.block b (Rep.acc_own HL11.out.al.acc b hb).2 (hno b hb).1)
  · rcases HV6O.out with h | h
    · exact .inl h
    · exact .inr fun b hb => ⟨h b hb, (Rep.acc_own HL11.out.al.acc b hb).2⟩
  · rw [hpl2, hrr2]
    have h := hD'
    rw [HLEN.out] at h
    exact h.only HO1213.out (fun b e hd => by
      have e : b = W.heap.size + 1 := e
      rcases hDD' b hd with h | h
      · have := HDD.out b h; omega
      · omega)
  · exact hDD'
  · exact (HB13.out S (by omega)).trans ((HO12.out.block S (by omega) hnd.1).trans HL11.out.row)
  · refine Only.andthen (HO7.out.wid fun b h => h.elim .inl fun h => .inr (.inl h)) HO13.out (fun b h => ?_)
    rcases h with h | h | h
    · exact .inr (by have := (HN6.out b h).1; omega)
    · exact .inl (.inr (.inr h))
    · exact .inr (by omega)
end Go.Proofs.YtghbfbohnoebiaaGreat
namespace Go.Proofs.YtghbfbohnoebiaaGreat
open Go.RowKit

theorem perm_end {α : Type} {a b : List α} (x : α) : (a ++ b ++ [x]).Perm (a ++ [x] ++ b) := by
  rw [List.append_assoc, List.append_assoc]
  exact List.Perm.append_left _ List.perm_append_comm
theorem fill_flow_perm {l : List DFlow} {ps : List Int} {k : Nat} {f : DFlow} (h : l[k]? = some f) : ∀ n, ((List.range n).map (fillAt l ps k)).Perm (keptTo f n ++ (List.range (newsTo f n).length).map fun j => ps.getD ((newsOf (l.take k)).length + j) 0)
  | 0 => by simp [keptTo, newsTo]
  | n + 1 => by
    have ih := fill_flow_perm (ps := ps) h n
    rw [List.range_succ, List.map_append, keptTo_succ, newsTo_succ]
    have e : fillAt l ps k n = if 0 ≤ pageAt f n then pageAt f n else ps.getD ((newsOf (l.take k)).length + (newsTo f n).length) 0 := by unfold fillAt; rw [h]
    by_cases hz : 0 ≤ pageAt f n
    · rw [if_pos hz, if_neg (by omega), List.append_nil]
      simp only [List.map_cons, List.map_nil]
      rw [e, if_pos hz]
      exact (ih.append_right _).trans (perm_end _)
    · rw [if_neg hz, if_pos (by omega), List.append_nil, List.length_append, List.length_singleton, List.range_succ, List.map_append, ← List.append_assoc]
      simp only [List.map_cons, List.map_nil]
      rw [e, if_neg hz]
      exact ih.append_right _
theorem fill_flows_perm {l : List DFlow} {ps : List Int} : ∀ k, k ≤ l.length → (((List.range k).map fun j => fillFlow l ps j (piecesAt l j)).flatten).Perm (pagesOf (l.take k) ++ (List.range (newsOf (l.take k)).length).map fun j => ps.getD j 0)
  | 0, _ => by simp [pagesOf, newsOf]
  | k + 1, hk => by
    obtain ⟨f, hf⟩ : ∃ f, l[k]? = some f := ⟨l[k]'(by omega), List.getElem?_eq_getElem (by omega)⟩
    have ih := fill_flows_perm (l := l) (ps := ps) k (by omega)
    have e : piecesAt l k = pieceCount f := by unfold piecesAt; rw [hf]
    have h1 := fill_flow_perm (ps := ps) hf (pieceCount f)
    rw [List.range_succ, List.map_append, List.flatten_append, pagesOf_succ hf, newsOf_succ hf, List.length_append, List.range_add, List.map_append, List.map_map]
    simp only [List.map_cons, List.map_nil, List.flatten_cons, List.flatten_nil, List.append_nil]
    rw [e]
    refine (ih.append h1).trans ?_
    show (_ ++ _ ++ (kept f ++ _)).Perm _
    rw [List.append_assoc, List.append_assoc]
    refine List.Perm.append_left _ ?_
    rw [← List.append_assoc, ← List.append_assoc]
    exact List.perm_append_comm.append_right _
theorem kept_full {k : DKey} {d : List UInt8} {g : Nat → Int} {f : DFlow} (hf : f = ⟨k, d, (List.range (pieceCount f)).map g⟩) (hg : ∀ i, i < pieceCount f → 0 ≤ g i) : kept f = (List.range (pieceCount f)).map g := by
  have hp : ∀ i, i < pieceCount f → pageAt f i = g i := fun i hi => by
    have e : f.pages[i]? = some (g i) := by rw [hf]; simp only [List.getElem?_map]; rw [List.getElem?_range hi]; rfl
    rw [pageAt_some e, if_pos (hg i hi)]
  have key : ∀ n, n ≤ pieceCount f → keptTo f n = (List.range n).map g := by
    intro n
    induction n with
    | zero => intro _; rfl
    | succ n ih =>
      intro hn
      rw [keptTo_succ, ih (by omega), hp n (by omega), if_pos (hg n (by omega)), List.range_succ, List.map_append]; rfl
  exact key _ (Nat.le_refl _)
theorem fillAt_nonneg {l : List DFlow} {ps : List Int} (hp : ∀ p ∈ ps, 0 ≤ p) (k i : Nat) : 0 ≤ fillAt l ps k i := by
  unfold fillAt
  split
  · exact Int.le_refl _
  · split
    · assumption
    · rw [List.getD_eq_getElem?_getD]
      cases h : ps[(newsOf (List.take k l)).length + (newsTo _ i).length]? with
      | none => exact Int.le_refl _
      | some p => exact hp p (List.mem_of_getElem? h)
theorem pages_fill {l : List DFlow} {ps : List Int} (hp : ∀ p ∈ ps, 0 ≤ p) : pagesOf (fillOf l ps) = ((List.range l.length).map fun j => fillFlow l ps j (piecesAt l j)).flatten := by
  unfold pagesOf fillOf
  rw [List.map_map]
  congr 1
  refine List.map_congr_left fun k hk => ?_
  have hl := List.mem_range.1 hk
  obtain ⟨f, hf⟩ : ∃ f, l[k]? = some f := ⟨_, List.getElem?_eq_getElem hl⟩
  have e : piecesAt l k = pieceCount f := by unfold piecesAt; rw [hf]
  show kept (match l[k]? with | none => _ | some f => _) = _
  rw [hf, e]
  exact kept_full (k := f.key) (d := f.data) (g := fillAt l ps k) rfl fun i _ => fillAt_nonneg hp k i
theorem getD_range (ps : List Int) : (List.range ps.length).map (fun j => ps.getD j 0) = ps := by
  apply List.ext_getElem?
  intro j
  by_cases h : j < ps.length
  · rw [List.getElem?_map, List.getElem?_range h, Option.map_some, List.getD_eq_getElem?_getD, List.getElem?_eq_getElem h]; rfl
  · rw [List.getElem?_eq_none (by simpa using h), List.getElem?_eq_none (by omega)]
/-- A filled snapshot's pages. -/
theorem pages_fill_perm {l : List DFlow} {ps : List Int} (hn : ps.length = (newsOf l).length) (hp : ∀ p ∈ ps, 0 ≤ p) : (pagesOf (fillOf l ps)).Perm (pagesOf l ++ ps) := by
  have h := fill_flows_perm (l := l) (ps := ps) l.length (Nat.le_refl _)
  rw [List.take_length, ← hn, getD_range] at h
  rw [pages_fill hp]
  exact h
theorem newsOf_le {fl : List DFlow} {k : Nat} (hk : needFlows fl = k) : (newsOf fl).length ≤ k := by
  have : 0 ≤ pageCount ((dirFlows fl).length : Nat) := by unfold pageCount; split <;> omega
  unfold needFlows at hk
  omega
/-- What a snapshot that was laid reaches. -/
theorem lay_reach {x : StSt} {refs : List Int} {fl : List DFlow} {head seq : Int} {k : Nat} (hk : needFlows fl = k) (hp : ∀ p ∈ layPages refs k, 0 ≤ p) :
    (reachOf (layFlows fl (layPages refs k)) (laySuper x fl (layPages refs k) head seq)).Perm (pagesOf fl ++ layPages refs k) := by
  have hl := layPages_len refs k
  have hn := newsOf_le hk
  unfold reachOf layFlows
  show (pagesOf (fillOf fl ((layPages refs k).take (newsOf fl).length)) ++ (layPages refs k).drop (newsOf fl).length).Perm _
  refine ((pages_fill_perm (by rw [List.length_take]; omega) fun p hp2 => hp p (List.mem_of_mem_take hp2)).append_right _).trans ?_
  rw [List.append_assoc, List.take_append_drop]
/-- The counts behind a laying. -/
theorem lay_counts {N : Nat} {held : List Int} {fl : List DFlow} {k : Nat} (hk : k ≤ (freePages N held).length) (hf : ∀ p ∈ pagesOf fl, 0 ≤ p ∧ p < N) :
    layPages (countsOf N held) k = (freePages N held).take k ∧ layRefs (countsOf N held) fl k = countsOf N (held ++ (freePages N held).take k ++ pagesOf fl) := by
  obtain ⟨h, _⟩ := take_counts hk
  refine ⟨by unfold layPages; rw [h], ?_⟩
  unfold layRefs
  rw [h]
  show (addS 1 (countsOf N _) _).getD _ = _
  rw [addS_up hf]
  rfl
end Go.Proofs.YtghbfbohnoebiaaGreat
namespace Go.Proofs.YtghbfbohnoebiaaGreat
open Go.RowKit Go.Shelf
attribute [local go_sem] Oper.semAt_some

/-- Publish's closure -/
theorem spot_calls {W : World} {k : Int} : Calls Tryz.prog 52 #[.int .i64 k] W fun e W' => e = .returned (.bool (placeB k)) ∧ W' = W := by
  by_cases h0 : 0 ≤ k
  · by_cases h1 : k ≤ 281474976710656
    · have HR := Lib.hid (show placeB k = true by simp [placeB, h0, h1])
      go_enter Tryz.func52, Tryz.ntmps52
      go_wp2_with fail
      go_ret
      exact ⟨by rw [HR.out]; rfl, rfl⟩
    · have HR := Lib.hid (show placeB k = false by simp [placeB, h0, h1])
      go_enter Tryz.func52, Tryz.ntmps52
      go_wp2_with fail
      go_ret
      exact ⟨by rw [HR.out]; rfl, rfl⟩
  · have HR := Lib.hid (show placeB k = false by simp [placeB, h0])
    go_enter Tryz.func52, Tryz.ntmps52
    go_wp2_with fail
    go_ret
    exact ⟨by rw [HR.out]; rfl, rfl⟩
set_option maxRecDepth 100000 in
/-- Publish upon no store -/
theorem publish_nil {W : World} {vl : Value} {h q : Int} : Calls Tryz.prog 14 #[.pointer none, vl, .int .i64 h, .int .i64 q] W fun e W' => e = .returned (.int .i64 4) ∧ W' = W := by
  go_enter Tryz.func14, Tryz.ntmps14
  go_wp2_with fail
  go_ret
  exact ⟨rfl, rfl⟩
end Go.Proofs.YtghbfbohnoebiaaGreat
namespace Go.Proofs.YtghbfbohnoebiaaGreat
open Go.RowKit Go.Shelf
attribute [local go_sem] Oper.semAt_some

theorem heap_setL {w : World} {b i e : Nat} {l : List Value} {v : Value} {f : Nat × Nat} (h : w.heap[b]? = some (.cells l.toArray e f)) : (w.setCell ⟨b, i, none⟩ v).heap[b]? = some (.cells (l.set i v).toArray e f) := by
  have := heap_setRow (i := i) (v := v) h
  simpa using this
/-- A store in memory: its block, its counts, and what they hold. K: what may be written by anyone; G: what is the store's own and may be written. -/
def StoreAt (K D G : Nat → Prop) (W : World) (S P : Nat) (x : StSt) (refs : List Int) : Prop :=
  ∃ (A base : Nat) (v : Value) (Ad : Option Addr) (cd : Nat) (Af : Option Addr) (cf : Nat) (Ao : Option Addr) (co : Nat),
    StoreRow W S (.pointer (some ⟨P, 0, none⟩)) x A Ad cd Af cf Ao co ∧ StoreVals (fun b => ¬ K b) W x Ad cd Af cf Ao co ∧ AllocAt W A base refs v ∧ base ≤ W.heap.size ∧
    (∀ b, G b ↔ b = S ∨ b = A ∨ v.ownBlock = some b) ∧ S ≠ A ∧ v.ownBlock ≠ some S ∧ (∀ b, G b → ¬ D b) ∧ ∀ b, G b ∨ D b → K b
def pubK (x : StSt) (l : List DStream) : Nat := (needFlows (flowsOf x.flows l)).toNat
def pubWrite (x : StSt) (refs : List Int) (st : DiskSt) (l : List DStream) : DiskSt × Int := layWrite x (flowsOf x.flows l) (layPages refs (pubK x l)) st
def pubSuper (x : StSt) (refs : List Int) (l : List DStream) (head seq : Int) : DSuper := laySuper x (flowsOf x.flows l) (layPages refs (pubK x l)) head seq
def pubTurn (x : StSt) (refs : List Int) (st : DiskSt) (l : List DStream) (head seq : Int) : DiskSt × Int :=
  if (pubWrite x refs st l).2 = 0 then turnS (pubWrite x refs st l).1 x.slot (pubSuper x refs l head seq) else pubWrite x refs st l
def pubNew (x : StSt) (refs : List Int) (l : List DStream) (head seq : Int) : StSt :=
  ⟨x.log, x.pages, x.epoch, 1 - x.slot, pubSuper x refs l head seq, layFlows (flowsOf x.flows l) (layPages refs (pubK x l)), reachOf x.flows x.cur, false⟩
def deadS (x : StSt) : StSt := ⟨x.log, x.pages, x.epoch, x.slot, x.cur, x.flows, x.other, true⟩
def pubHeld (x : StSt) (refs : List Int) (l : List DStream) : List Int := layRefs refs (flowsOf x.flows l) (pubK x l)
/-- What a laying makes of a store, its counts, its disk; its error. -/
def pubS (x : StSt) (refs : List Int) (st : DiskSt) (l : List DStream) (head seq : Int) : StSt × List Int × DiskSt × Int :=
  if (pubTurn x refs st l head seq).2 = 0 then (pubNew x refs l head seq, (addS (-1) (pubHeld x refs l) x.other).getD (pubHeld x refs l), (pubTurn x refs st l head seq).1, 0)
  else (deadS x, pubHeld x refs l, (pubTurn x refs st l head seq).1, (pubTurn x refs st l head seq).2)
def PubPost (K D G : Nat → Prop) (W : World) (S P n : Nat) (r : StSt × List Int × DiskSt × Int) (e : Ending) (W' : World) : Prop :=
  e = .returned (.int .i64 r.2.2.2) ∧ ∃ D' G' : Nat → Prop, DevD D' W' P n r.2.2.1 ∧ StoreAt (fun b => (K b ∧ b < W.heap.size) ∨ G' b ∨ D' b) D' G' W' S P r.1 r.2.1 ∧
    (∀ b, D' b → D b ∨ W.heap.size ≤ b) ∧ (∀ b, G' b → G b ∨ W.heap.size ≤ b) ∧ Only (fun b => G b ∨ D b) W W'
/-- Behind a publishing, where the store is and what it holds. -/
theorem pub_at {K D G D' Qv : Nat → Prop} {W w : World} {S P n A base : Nat} {st : DiskSt} {x : StSt} {rf : List Int} {v : Value} {Ad : Option Addr} {cd : Nat} {Af : Option Addr} {cf : Nat} {Ao : Option Addr} {co : Nat} {er : Int}
    (dv : DevD D' w P n st) (row : StoreRow w S (.pointer (some ⟨P, 0, none⟩)) x A Ad cd Af cf Ao co) (vals : StoreVals Qv w x Ad cd Af cf Ao co)
    (hQ : ∀ b, Qv b → (¬ K b ∨ W.heap.size ≤ b) ∧ b ≠ S ∧ b ≠ A ∧ v.ownBlock ≠ some b ∧ ¬ D' b) (al : AllocAt w A base rf v) (hb : base ≤ w.heap.size) (hSA : S ≠ A) (hvS : v.ownBlock ≠ some S) (hGS : G S) (hGA : G A)
    (own : ∀ b, v.ownBlock = some b → (G b ∨ W.heap.size ≤ b) ∧ ¬ D' b) (hnS : ¬ D' S) (hnA : ¬ D' A) (d1 : ∀ b, D' b → D b ∨ W.heap.size ≤ b) (only : Only (fun b => G b ∨ D b) W w) :
    PubPost K D G W S P n (x, rf, st, er) (.returned (.int .i64 er)) w := by
  refine ⟨rfl, D', fun b => b = S ∨ b = A ∨ v.ownBlock = some b, dv, ⟨A, base, v, Ad, cd, Af, cf, Ao, co, row, ?_, al, hb, fun b => Iff.rfl, hSA, hvS, ?_, fun b h => .inr h⟩, d1, ?_, only⟩
  · refine vals.keep fun b hq _ => ⟨?_, rfl⟩
    obtain ⟨h1, h2, h3, h4, h5⟩ := hQ b hq
    rintro (⟨q1, q2⟩ | (rfl | rfl | q) | q)
    · rcases h1 with h1 | h1
      · exact h1 q1
      · omega
    · exact h2 rfl
    · exact h3 rfl
    · exact h4 q
    · exact h5 q
  · rintro b (rfl | rfl | q)
    · exact hnS
    · exact hnA
    · exact (own b q).2
  · rintro b (rfl | rfl | q)
    · exact .inl hGS
    · exact .inl hGA
    · exact (own b q).1
theorem addS_small {B : Int} (hB : 0 ≤ B) : ∀ {l : List Int} {refs r : List Int} (_ : SmallRefs B refs) (_ : addS 1 refs l = some r), r.length = refs.length ∧ SmallRefs (B + l.length) r := by
  intro l
  induction l generalizing B with
  | nil => intro refs r h e; unfold addS at e; cases e; exact ⟨rfl, by simpa using h⟩
  | cons p l ih =>
    intro refs r h e
    have e1 : l.foldl (addStep 1) (addStep 1 (some refs) p) = some r := e
    cases hs : addStep 1 (some refs) p with
    | none => rw [hs, addStep_none] at e1; cases e1
    | some q =>
      rw [hs] at e1
      have hq : SmallRefs (B + 1) q := by
        unfold addStep at hs
        simp only [Option.bind_some] at hs
        split at hs
        · rename_i hc
          rw [← Option.some.inj hs]
          have hg := h.getD (j := p.toNat) (by omega)
          exact h.set (by omega) (by omega)
        · cases hs
      obtain ⟨h1, h2⟩ := ih (B := B + 1) (by omega) hq e1
      refine ⟨h1.trans (addStep_len hs), ?_⟩
      have e3 : B + 1 + (l.length : Int) = B + ((p :: l).length : Nat) := by simp only [List.length_cons]; omega
      rw [← e3]; exact h2
theorem layRefs_small {B : Int} {refs : List Int} {fl : List DFlow} {k : Nat} (hB : 1 ≤ B) (h : SmallRefs B refs) : (layRefs refs fl k).length = refs.length ∧ SmallRefs (B + (pagesOf fl).length) (layRefs refs fl k) := by
  have h1 := takeFn_small hB h k
  have h2 := takeFn_len refs k
  unfold layRefs
  cases he : addS 1 (allTo takeFn refs k).1 (pagesOf fl) with
  | none => exact ⟨h2, fun j x hx => by have := h1 j x hx; omega⟩
  | some r =>
    obtain ⟨g1, g2⟩ := addS_small (by omega) h1 he
    exact ⟨g1.trans h2, g2⟩

set_option maxRecDepth 100000 in
set_option maxHeartbeats 4000000 in
/-- Publish: a snapshot that is laid -/
theorem publish_lays {K D G Q' : Nat → Prop} {W : World} {P n S : Nat} {st : DiskSt} {x : StSt} {refs : List Int} {vl : Value} {l : List DStream} {head seq : Int}
    (hD : DevD D W P n st) (hn : n ≤ 700000000) (hS : StoreAt K D G W S P x refs) (hok : StoreOk x) (hol : x.other.length ≤ 1000000) (hr : refs.length ≤ 1000000) (hsm : SmallRefs 1000000 refs) (hd : x.dead = false) (h01 : x.slot = 0 ∨ x.slot = 1)
    (hx : rStream.list.val Q' W vl l) (hl : StreamsOk l) (hrise : riseB l = true) (hp : (placeB head && placeB seq && placeB (x.cur.gen + 1)) = true) (hg : 0 ≤ x.cur.gen ∧ x.cur.gen ≤ 1000000000)
    (hfit : fitsFlows (flowsOf x.flows l) refs = true) (hneed : needFlows (flowsOf x.flows l) ≤ 2000) (hwe : (Lit.int .i64 x.epoch).wf = true) (hw0 : (Lit.int .i64 x.log).wf = true) (hw1 : (Lit.int .i64 x.pages).wf = true) :
    Calls Tryz.prog 14 #[.pointer (some ⟨S, 0, none⟩), vl, .int .i64 head, .int .i64 seq] W (PubPost K D G W S P (n + pubK x l + 1) (pubS x refs st l head seq)) := by
  obtain ⟨A, base, v, Ad, cd, Af, cf, Ao, co, hrow, hv, ha, hbase, hG, hSA, hvS, hGD, hK⟩ := hS
  have HX := Lib.hid hx
  have HR := Lib.hid hrise
  have e19 := cell_row hrow 19
  have e9 := cell_row hrow 9
  simp only [hd] at e19
  have HFT := Lib.hid (show ∀ V, Below W.heap.size W V → Calls Tryz.prog 48 #[.pointer (some ⟨S, 0, none⟩), vl] V fun e W' => e = .returned (.bool (fitsFlows (flowsOf x.flows l) refs)) ∧ Below V.heap.size V W' from fun V hb =>
    sfits_calls (cell_row (row_call hb hrow) 16) (hv.flows.below hb (fun _ _ hl => hl.lt)) (cell_row (row_call hb hrow) 18) (ha.call hb) hr (Rep.val_below hx hb (fun _ _ hl => hl.lt)) hok.flows hl)
  have hvD : ∀ b, v.ownBlock = some b → ¬ D b := fun b hb => hGD b ((hG b).2 (.inr (.inr hb)))
  have hnD : ¬ D S := hGD S ((hG S).2 (.inl rfl))
  have hAD : ¬ D A := hGD A ((hG A).2 (.inr (.inl rfl)))
  have hpl : placeB head = true ∧ placeB seq = true ∧ placeB (x.cur.gen + 1) = true := by
    simp only [Bool.and_eq_true] at hp
    exact ⟨hp.1.1, hp.1.2, hp.2⟩
  have hwh : (Lit.int .i64 head).wf = true ∧ (Lit.int .i64 seq).wf = true := by
    have h1 := hpl.1
    have h2 := hpl.2.1
    unfold placeB at h1 h2
    simp only [Bool.and_eq_true, decide_eq_true_eq] at h1 h2
    exact ⟨wf_i64 (by omega) (by omega), wf_i64 (by omega) (by omega)⟩
  have HLY := Lib.hid (show ∀ V, Below W.heap.size W V → Calls Tryz.prog 53 #[.pointer (some ⟨S, 0, none⟩), vl, .int .i64 head, .int .i64 seq] V fun e W' => ∃ (vy vf : Value) (B5 B : Nat) (D' : Nat → Prop) (v' : Value), e = .returned (.tuple #[vy, vf, .int .i64 (pubWrite x refs st l).2]) ∧
      LayPost D V st S P n A base x Ad cd Af cf Ao co refs v (flowsOf x.flows l) head seq (pubK x l) vy vf B5 B D' v' W' from fun V hb =>
    lay_calls (hD.below hb) (by omega) (row_call hb hrow) (hv.keep fun b hq hl => ⟨hq, hb.block b hl.lt⟩) hok (ha.call hb) hr hsm (Nat.le_trans hbase hb.size) (Rep.val_below hx hb (fun _ _ hl => hl.lt)) hl hneed hnD hAD hSA hvS hvD hwh.1 hwh.2 hwe hw0 hw1 hg)
  obtain ⟨Al, cl, rfl, _, _, _⟩ := Rep.val_list hx
  have iw : IntKind.i64.wrap (x.cur.gen + 1) = x.cur.gen + 1 := IntWalk.i64_in _ ⟨by omega, by omega⟩
  have HPL := Lib.hid hpl
  have HFIT := Lib.hid hfit
  have HV := Lib.hid hv
  have HOK := Lib.hid hok
  have HOL := Lib.hid hol
  have HRL := Lib.hid (show (pubHeld x refs l).length ≤ 1000000 from by unfold pubHeld; rw [(layRefs_small (by decide) hsm).1]; exact hr)
  have HSM := Lib.hid (show SmallRefs 1000000000 (pubHeld x refs l) from fun j z hz => by
    have h1 := (layRefs_small (fl := flowsOf x.flows l) (k := pubK x l) (by decide) hsm).2 j z hz
    have h2 := pagesOf_len2 (l := flowsOf x.flows l) fun f hf => ((flowsOf_ok (old := x.flows) hl).2 f hf).1
    have h3 := (flowsOf_ok (old := x.flows) hl).1
    omega)
  have HG := Lib.hid hG
  have HGD := Lib.hid hGD
  have HK := Lib.hid hK
  have HN := Lib.hid (show v.ownBlock ≠ some S ∧ S ≠ A from ⟨hvS, hSA⟩)
  have HDD := Lib.hid hD.1
  have HBA := Lib.hid hbase
  have H01 := Lib.hid h01
  have HNN := Lib.hid hn
  have HDE := Lib.hid hd
  have HAL := Lib.hid ha.lt
  have HSL := Lib.hid (Array.getElem?_eq_some_iff.1 hrow).1
  have HVL := Lib.hid (show ∀ b, v.ownBlock = some b → b < W.heap.size from fun b hb => (Rep.acc_own ha.acc b hb).2)
  have HPT := Lib.hid (show pubTurn x refs st l head seq = if (pubWrite x refs st l).2 = 0 then turnS (pubWrite x refs st l).1 x.slot (pubSuper x refs l head seq) else pubWrite x refs st l from rfl)
  have HPS := Lib.hid (show pubS x refs st l head seq = if (pubTurn x refs st l head seq).2 = 0 then (pubNew x refs l head seq, (addS (-1) (pubHeld x refs l) x.other).getD (pubHeld x refs l), (pubTurn x refs st l head seq).1, 0) else (deadS x, pubHeld x refs l, (pubTurn x refs st l head seq).1, (pubTurn x refs st l head seq).2) from rfl)
  have HKL := Lib.hid (show pubK x l ≤ 2000 from by unfold pubK; omega)
  have HDL := Lib.hid (show (pubSuper x refs l head seq).dir.length ≤ 1000000 from by
    show ((layPages refs (pubK x l)).drop _).length ≤ _
    rw [List.length_drop, layPages_len]
    unfold pubK
    omega)
  clear hx hrise hD hn hrow hv ha hok hol hr hsm hd h01 hl hp hg hfit hneed hwe hw0 hw1 hwh hpl hG hGD hK hSA hvS hvD hnD hAD hbase
  go_enter Tryz.func14, Tryz.ntmps14
  go_wp2_with fail
  refine (rise_calls HX.out).mono ?_
  rintro e w1 ⟨rfl, hb⟩
  have HB := Lib.hid hb
  have c9 := cell_call hb e9
  clear hb e9 e19
  rw [HR.out]
  go_wp2_with fail
  refine spot_calls.mono ?_
  rintro e w2 ⟨rfl, hw⟩
  obtain rfl := hw.symm
  clear hw
  rw [HPL.out.1]
  go_wp2_with fail
  refine spot_calls.mono ?_
  rintro e w2 ⟨rfl, hw⟩
  obtain rfl := hw.symm
  clear hw
  rw [HPL.out.2.1]
  go_wp2_with fail
  refine spot_calls.mono ?_
  rintro e w2 ⟨rfl, hw⟩
  obtain rfl := hw.symm
  clear hw
  rw [HPL.out.2.2]
  go_wp2_with fail
  refine (HFT.out _ HB.out).mono ?_
  rintro e w2 ⟨rfl, hb⟩
  have HB2 := Lib.hid (HB.out.trans (hb.mono HB.out.size))
  clear hb c9 iw
  rw [HFIT.out]
  go_wp2_with fail
  refine (HLY.out _ HB2.out).mono ?_
  rintro e w3 ⟨vy, vf, B5, B, D1, v1, rfl, hlp⟩
  obtain ⟨Ay, cy, hvy, _⟩ := rSuper_val hlp.super
  obtain ⟨Ff, fc, hvf, _, _, _⟩ := Rep.val_list hlp.flows
  have HLP := Lib.hid hlp
  clear hlp
  have HYE := Lib.hid (show laySuper x (flowsOf x.flows l) (layPages refs (pubK x l)) head seq = pubSuper x refs l head seq from rfl)
  have HWE := Lib.hid (show layWrite x (flowsOf x.flows l) (layPages refs (pubK x l)) st = pubWrite x refs st l from rfl)
  have HFE := Lib.hid (show layFlows (flowsOf x.flows l) (layPages refs (pubK x l)) = (pubNew x refs l head seq).flows from rfl)
  have HNS := Lib.hid (show (pubNew x refs l head seq).cur = pubSuper x refs l head seq ∧ (pubNew x refs l head seq).log = x.log ∧ (pubNew x refs l head seq).pages = x.pages ∧ (pubNew x refs l head seq).epoch = x.epoch ∧ (pubNew x refs l head seq).slot = 1 - x.slot ∧ (pubNew x refs l head seq).other = reachOf x.flows x.cur ∧ (pubNew x refs l head seq).dead = false from ⟨rfl, rfl, rfl, rfl, rfl, rfl, rfl⟩)
  rw [HYE.out] at hvy
  rw [HFE.out] at hvf
  obtain ⟨y, hy⟩ : ∃ y, pubSuper x refs l head seq = y := ⟨_, rfl⟩
  obtain ⟨x2, hx2⟩ : ∃ x2, pubNew x refs l head seq = x2 := ⟨_, rfl⟩
  obtain ⟨k, hk⟩ : ∃ k, pubK x l = k := ⟨_, rfl⟩
  obtain ⟨r1, hr1⟩ : ∃ r1, pubWrite x refs st l = r1 := ⟨_, rfl⟩
  obtain ⟨rf, hrf⟩ : ∃ rf, pubHeld x refs l = rf := ⟨_, rfl⟩
  have HSU := Lib.hid (HYE.out ▸ HLP.out.super : rSuper.val (fun b => w2.heap.size ≤ b ∧ b < B5) w3 vy (pubSuper x refs l head seq))
  have HFL := Lib.hid (HFE.out ▸ HLP.out.flows : rFlow.list.val (fun b => w2.heap.size ≤ b ∧ b < B5) w3 vf (pubNew x refs l head seq).flows)
  have HDV := Lib.hid (show DevD D1 w3 P (n + k) r1.1 from by rw [← hk, ← hr1]; exact HLP.out.dev)
  have HA1 := Lib.hid (show AllocAt w3 A base rf v1 from by rw [← hrf]; exact HLP.out.al)
  have HO1 := Lib.hid (show Only (fun b => v.ownBlock = some b ∨ b = A ∨ D b) w2 w3 from HLP.out.only)
  have HF1 := Lib.hid (show ∀ b, D1 b → D b ∨ B ≤ b from HLP.out.fresh)
  have HV1 := Lib.hid (show v1 = v ∨ ∀ b, v1.ownBlock = some b → B5 ≤ b ∧ b < B from HLP.out.own)
  have HBB := Lib.hid (show w2.heap.size ≤ B5 ∧ B5 ≤ B ∧ B ≤ w3.heap.size from ⟨HLP.out.b0, HLP.out.b1, HLP.out.b2⟩)
  have HKK := Lib.hid (show pubK x l ≤ 2000 from HKL.out)
  have HRW := Lib.hid (show StoreRow w3 S (.pointer (some ⟨P, 0, none⟩)) x A Ad cd Af cf Ao co from HLP.out.row)
  rw [hk] at HKK HKL
  rw [hy] at HPT HDL HSU hvy HNS
  rw [hx2] at HPS HFL hvf HNS
  have HKE := Lib.hid hk
  rw [hr1] at HPT ⊢
  rw [hrf] at HPS HRL HSM
  clear HLP HYE HWE HFE hy hx2 hk hr1 hrf HLY HFT
  obtain ⟨s1, er⟩ := r1
  dsimp only at *
  obtain ⟨nf, hnf⟩ : ∃ nf, x2.flows.length = nf := ⟨_, rfl⟩
  rw [hnf] at hvf
  have HNF := Lib.hid hnf
  subst hvy
  subst hvf
  clear hnf
  have HSP := Lib.hid (show S < w3.heap.size ∧ W.heap.size ≤ w2.heap.size ∧ w2.heap.size ≤ w3.heap.size from ⟨(Array.getElem?_eq_some_iff.1 HRW.out).1, HB2.out.size, HO1.out.size⟩)
  obtain ⟨w4, hw4⟩ : ∃ w4, w3.alloc (.cells #[.int .i64 y.epoch, .int .i64 y.gen, .int .i64 y.log, .int .i64 y.pages, .int .i64 y.head, .int .i64 y.seq, .int .i64 y.long, .slice Ay y.dir.length cy] 37) = w4 := ⟨_, rfl⟩
  have hb4 : Below w3.heap.size w3 w4 := by rw [← hw4]; exact (Below.refl _ _).alloc (Nat.le_refl _) _
  have HX4 := Lib.hid (show w4.heap[w3.heap.size]? = some (.cells #[.int .i64 y.epoch, .int .i64 y.gen, .int .i64 y.log, .int .i64 y.pages, .int .i64 y.head, .int .i64 y.seq, .int .i64 y.long, .slice Ay y.dir.length cy] 37 (0, 0)) by rw [← hw4]; exact heap_alloc_new _ _)
  have HZ4 := Lib.hid (show w4.heap.size = w3.heap.size + 1 by rw [← hw4]; simp)
  have HB4 := Lib.hid hb4
  have HDV4 := Lib.hid (HDV.out.below hb4)
  have HRW4 := Lib.hid (show StoreRow w4 S (.pointer (some ⟨P, 0, none⟩)) x A Ad cd Af cf Ao co from row_call hb4 HRW.out)
  have HA4 := Lib.hid (HA1.out.call hb4)
  have HSU4 := Lib.hid (Rep.val_below HSU.out hb4 (fun _ _ h => h.lt))
  have HFL4 := Lib.hid (Rep.val_below HFL.out hb4 (fun _ _ h => h.lt))
  clear hb4
  have HBL := Lib.hid (show B ≤ w3.heap.size from HBB.out.2.2)
  by_cases he0 : er = 0
  case neg =>
    have g0 : (er == 0) = false := by simpa using he0
    have HT1 := Lib.hid (show pubTurn x refs st l head seq = (s1, er) by rw [HPT.out, if_neg he0])
    have HE0 := Lib.hid he0
    clear he0
    have HO4 := Lib.hid (show Only (fun b => G b ∨ D b) W w4 from (Only.of_below HB2.out : Only (fun b => G b ∨ D b) W w2).trans ((HO1.out.wid fun b h => h.elim (fun h => .inl ((HG.out b).2 (.inr (.inr h)))) (fun h => h.elim (fun h => .inl (by rw [h]; exact (HG.out A).2 (.inr (.inl rfl)))) .inr)).trans (Only.of_below HB4.out)))
    have hrow := HRW4.out
    unfold StoreRow at hrow
    have y19 := cell_row hrow 19
    have z19 := frozen_row hrow 19
    have y8 := HRL.out
    clear y8 hrow
    go_wp2_with fail
    try clear hw4
    go_ret
    have hps : pubS x refs st l head seq = (deadS x, rf, s1, er) := by rw [HPS.out, HT1.out, if_neg HE0.out]
    rw [HKE.out, hps]
    have hsp := HSP.out
    have hal := HAL.out
    have hsl := HSL.out
    have hg := HG.out
    have hgd := HGD.out
    have hkk := HK.out
    have hbb := HBB.out
    have hd1 : ∀ b, D1 b → D b ∨ w2.heap.size ≤ b := fun b hb => (HF1.out b hb).imp id (fun h => by omega)
    have hown : ∀ b, v1.ownBlock = some b → G b ∨ B5 ≤ b ∧ b < B := fun b hb => by
      rcases HV1.out with h | h
      · rw [h] at hb; exact .inl ((hg b).2 (.inr (.inr hb)))
      · exact .inr (h b hb)
    have ho : Only (fun b => G b ∨ D b) W w4 := HO4.out
    have hos : Only (fun b => b = S) w4 (w4.setCell ⟨S, 19, none⟩ (.bool true)) := Only.put (Only.refl _ _) rfl
    have hlt : ∀ b, G b → b < W.heap.size := fun b hb => by
      rcases (hg b).1 hb with h | h | h
      · rw [h]; exact hsl
      · rw [h]; exact hal
      · exact HVL.out b h
    have hvS1 : v1.ownBlock ≠ some S := fun e => by
      rcases HV1.out with h | h
      · rw [h] at e; exact HN.out.1 e
      · have := h S e; omega
    have hdS : ¬ D1 S := fun e => (hd1 S e).elim (fun e => hgd S ((hg S).2 (.inl rfl)) e) (fun e => by omega)
    have hdA : ¬ D1 A := fun e => (hd1 A e).elim (fun e => hgd A ((hg A).2 (.inr (.inl rfl))) e) (fun e => by omega)
    have hrow2 : StoreRow (w4.setCell ⟨S, 19, none⟩ (.bool true)) S (.pointer (some ⟨P, 0, none⟩)) (deadS x) A Ad cd Af cf Ao co := heap_setL HRW4.out
    refine pub_at (Qv := fun b => ¬ K b ∧ b < W.heap.size) (DevD.only (HDV4.out.more (Nat.le_succ _)) hos (fun b e => by rw [e]; exact hdS)) hrow2 ?_ ?_ (AllocAt.keep HA4.out (hos.block A (AllocAt.lt HA4.out) (fun e => HN.out.2 e.symm)) (fun b hb => hos.block b (Rep.acc_own (AllocAt.acc HA4.out) b hb).2 (fun e => by rw [e] at hb; exact hvS1 hb))) (by have := HBA.out; have := hos.size; have := ho.size; omega) HN.out.2 hvS1 ((hg S).2 (.inl rfl)) ((hg A).2 (.inr (.inl rfl))) ?_ hdS hdA (fun b hb => (hd1 b hb).imp id (fun e => by omega)) (ho.trans (hos.wid fun b e => .inl (by rw [e]; exact (hg S).2 (.inl rfl))))
    · refine StoreVals.keep (x := deadS x) (Q := fun b => ¬ K b) (W := W) ⟨HV.out.cur, HV.out.flows, HV.out.other⟩ fun b hq hl => ⟨⟨hq, hl.lt⟩, (hos.block b (Nat.lt_of_lt_of_le hl.lt ho.size) (fun e => hq (by rw [e]; exact hkk S (.inl ((hg S).2 (.inl rfl)))))).trans (ho.block b hl.lt (fun e => hq (hkk b e)))⟩
    · rintro b ⟨q1, q2⟩
      refine ⟨.inl q1, fun e => q1 (by rw [e]; exact hkk S (.inl ((hg S).2 (.inl rfl)))), fun e => q1 (by rw [e]; exact hkk A (.inl ((hg A).2 (.inr (.inl rfl))))), fun e => ?_, fun e => ?_⟩
      · rcases hown b e with h | h
        · exact q1 (hkk b (.inl h))
        · omega
      · rcases hd1 b e with h | h
        · exact q1 (hkk b (.inr h))
        · omega
    · intro b hb
      refine ⟨(hown b hb).imp id (fun h => by omega), fun e => ?_⟩
      rcases HV1.out with h | h
      · rw [h] at hb
        rcases HF1.out b e with h2 | h2
        · exact hgd b ((hg b).2 (.inr (.inr hb))) h2
        · have := HVL.out b hb; omega
      · have h3 := h b hb
        rcases HF1.out b e with h2 | h2
        · have := HDD.out b h2; omega
        · omega
  case pos =>
    subst he0
    have HT1 := Lib.hid (show pubTurn x refs st l head seq = turnS s1 x.slot y by rw [HPT.out, if_pos rfl])
    have hx4 := HX4.out
    obtain ⟨x0, x1⟩ := cl2 hx4
    have x2' := cell_row hx4 2
    have x3 := cell_row hx4 3
    have x4 := cell_row hx4 4
    have x5 := cell_row hx4 5
    have x6 := cell_row hx4 6
    have x7 := cell_row hx4 7
    clear hx4
    go_wp2_with fail
    try rw [hw4]
    clear hw4
    go_wp2_with fail
    clear x0 x1 x2' x3 x4 x5 x6 x7
    have hrw4 := HRW4.out
    unfold StoreRow at hrw4
    refine (turn_calls (Q := fun b => w2.heap.size ≤ b ∧ b < B5) HDV4.out (by have := HNN.out; have := HKK.out; omega) (fun e => by
      have := HSL.out; have := HSP.out; have := HBB.out
      rcases HF1.out S e with h | h
      · exact HGD.out S ((HG.out S).2 (.inl rfl)) h
      · omega) (cell_row hrw4 0) (cell_row hrw4 7) H01.out HSU4.out (fun b hq e => by
      have := HSP.out; have := HBB.out
      rcases HF1.out b e with h | h
      · have := HDD.out b h; omega
      · omega) HDL.out).mono ?_
    clear hrw4
    rintro e w5 ⟨rfl, ⟨D2, hd2, hs2⟩, ho2⟩
    have HD2 := Lib.hid hd2
    have HS2X := Lib.hid (show ∀ b, D2 b → D1 b ∨ w4.heap.size ≤ b from hs2)
    have HS2 := Lib.hid (show ∀ b, D2 b → D b ∨ B ≤ b from fun b hb => by
      have := HBL.out; have := HZ4.out
      rcases hs2 b hb with h | h
      · exact HF1.out b h
      · exact .inr (by omega))
    have HO2 := Lib.hid (show Only D1 w4 w5 from ho2)
    clear hd2 hs2 ho2
    obtain ⟨r5, hr5⟩ : ∃ r5, turnS s1 x.slot y = r5 := ⟨_, rfl⟩
    rw [hr5] at HD2 HT1 ⊢
    clear hr5
    obtain ⟨s2, er⟩ := r5
    dsimp only at *
    have HD1L := Lib.hid (show ∀ b, D1 b → D b ∨ W.heap.size ≤ b from fun b hb => (HF1.out b hb).imp id (fun h => by have := HSP.out; have := HBB.out; omega))
    have HO4 := Lib.hid (show Only (fun b => G b ∨ D b) W w4 from (Only.of_below HB2.out : Only (fun b => G b ∨ D b) W w2).trans ((HO1.out.wid fun b h => h.elim (fun h => .inl ((HG.out b).2 (.inr (.inr h)))) (fun h => h.elim (fun h => .inl (by rw [h]; exact (HG.out A).2 (.inr (.inl rfl)))) .inr)).trans (Only.of_below HB4.out)))
    have HOA := Lib.hid (show Only (fun b => G b ∨ D b) W w5 from HO4.out.andthen HO2.out fun b hb => (HD1L.out b hb).imp .inr id)
    have HRW5 := Lib.hid (show StoreRow w5 S (.pointer (some ⟨P, 0, none⟩)) x A Ad cd Af cf Ao co from row_only HO2.out HRW4.out (fun e => by
      have := HSL.out; have := HSP.out; have := HBB.out
      rcases HF1.out S e with h | h
      · exact HGD.out S ((HG.out S).2 (.inl rfl)) h
      · omega))
    have HX5 := Lib.hid (show w5.heap[w3.heap.size]? = some (.cells #[.int .i64 y.epoch, .int .i64 y.gen, .int .i64 y.log, .int .i64 y.pages, .int .i64 y.head, .int .i64 y.seq, .int .i64 y.long, .slice Ay y.dir.length cy] 37 (0, 0)) from row_only HO2.out HX4.out (fun e => by
      have h4 := HDV.out.1 _ e
      omega))
    have HA5 := Lib.hid (show AllocAt w5 A base rf v1 from HA4.out.keep (HO2.out.block A HA4.out.lt (fun e => by
      have := HAL.out; have := HSP.out; have := HBB.out
      rcases HF1.out A e with h | h
      · exact HGD.out A ((HG.out A).2 (.inr (.inl rfl))) h
      · omega)) (fun b hb => HO2.out.block b (Rep.acc_own HA4.out.acc b hb).2 (fun e => by
      have := HSP.out; have := HBB.out
      rcases HV1.out with h | h
      · rw [h] at hb
        have h9 := HVL.out b hb
        rcases HF1.out b e with h | h
        · exact HGD.out b ((HG.out b).2 (.inr (.inr hb))) h
        · omega
      · have h9 := h b hb
        rcases HF1.out b e with h | h
        · have := HDD.out b h; omega
        · omega)))
    have HZ5 := Lib.hid (show w4.heap.size ≤ w5.heap.size from HO2.out.size)
    have HB5 := Lib.hid (show w3.heap.size ≤ w5.heap.size from by have := HZ5.out; have := HZ4.out; omega)
    by_cases he0 : er = 0
    case neg =>
      have g0 : (er == 0) = false := by simpa using he0
      have HE0 := Lib.hid he0
      clear he0
      have hrow := HRW5.out
      unfold StoreRow at hrow
      have y19 := cell_row hrow 19
      have z19 := frozen_row hrow 19
      have y8 := HRL.out
      clear y8 hrow
      go_wp2_with fail
      try clear hw4
      go_ret
      have hps : pubS x refs st l head seq = (deadS x, rf, s2, er) := by rw [HPS.out, HT1.out, if_neg HE0.out]
      rw [HKE.out, hps]
      have hsp := HSP.out
      have hal := HAL.out
      have hsl := HSL.out
      have hg := HG.out
      have hgd := HGD.out
      have hkk := HK.out
      have hbb := HBB.out
      have hd1 : ∀ b, D2 b → D b ∨ w2.heap.size ≤ b := fun b hb => (HS2.out b hb).imp id (fun h => by omega)
      have hown : ∀ b, v1.ownBlock = some b → G b ∨ B5 ≤ b ∧ b < B := fun b hb => by
        rcases HV1.out with h | h
        · rw [h] at hb; exact .inl ((hg b).2 (.inr (.inr hb)))
        · exact .inr (h b hb)
      have ho : Only (fun b => G b ∨ D b) W w5 := HOA.out
      have hos : Only (fun b => b = S) w5 (w5.setCell ⟨S, 19, none⟩ (.bool true)) := Only.put (Only.refl _ _) rfl
      have hlt : ∀ b, G b → b < W.heap.size := fun b hb => by
        rcases (hg b).1 hb with h | h | h
        · rw [h]; exact hsl
        · rw [h]; exact hal
        · exact HVL.out b h
      have hvS1 : v1.ownBlock ≠ some S := fun e => by
        rcases HV1.out with h | h
        · rw [h] at e; exact HN.out.1 e
        · have := h S e; omega
      have hdS : ¬ D2 S := fun e => (hd1 S e).elim (fun e => hgd S ((hg S).2 (.inl rfl)) e) (fun e => by omega)
      have hdA : ¬ D2 A := fun e => (hd1 A e).elim (fun e => hgd A ((hg A).2 (.inr (.inl rfl))) e) (fun e => by omega)
      have hrow2 : StoreRow (w5.setCell ⟨S, 19, none⟩ (.bool true)) S (.pointer (some ⟨P, 0, none⟩)) (deadS x) A Ad cd Af cf Ao co := heap_setL HRW5.out
      refine pub_at (Qv := fun b => ¬ K b ∧ b < W.heap.size) (DevD.only (HD2.out) hos (fun b e => by rw [e]; exact hdS)) hrow2 ?_ ?_ (AllocAt.keep HA5.out (hos.block A (AllocAt.lt HA5.out) (fun e => HN.out.2 e.symm)) (fun b hb => hos.block b (Rep.acc_own (AllocAt.acc HA5.out) b hb).2 (fun e => by rw [e] at hb; exact hvS1 hb))) (by have := HBA.out; have := hos.size; have := ho.size; omega) HN.out.2 hvS1 ((hg S).2 (.inl rfl)) ((hg A).2 (.inr (.inl rfl))) ?_ hdS hdA (fun b hb => (hd1 b hb).imp id (fun e => by omega)) (ho.trans (hos.wid fun b e => .inl (by rw [e]; exact (hg S).2 (.inl rfl))))
      · refine StoreVals.keep (x := deadS x) (Q := fun b => ¬ K b) (W := W) ⟨HV.out.cur, HV.out.flows, HV.out.other⟩ fun b hq hl => ⟨⟨hq, hl.lt⟩, (hos.block b (Nat.lt_of_lt_of_le hl.lt ho.size) (fun e => hq (by rw [e]; exact hkk S (.inl ((hg S).2 (.inl rfl)))))).trans (ho.block b hl.lt (fun e => hq (hkk b e)))⟩
      · rintro b ⟨q1, q2⟩
        refine ⟨.inl q1, fun e => q1 (by rw [e]; exact hkk S (.inl ((hg S).2 (.inl rfl)))), fun e => q1 (by rw [e]; exact hkk A (.inl ((hg A).2 (.inr (.inl rfl))))), fun e => ?_, fun e => ?_⟩
        · rcases hown b e with h | h
          · exact q1 (hkk b (.inl h))
          · omega
        · rcases hd1 b e with h | h
          · exact q1 (hkk b (.inr h))
          · omega
      · intro b hb
        refine ⟨(hown b hb).imp id (fun h => by omega), fun e => ?_⟩
        rcases HV1.out with h | h
        · rw [h] at hb
          rcases HS2.out b e with h2 | h2
          · exact hgd b ((hg b).2 (.inr (.inr hb))) h2
          · have := HVL.out b hb; omega
        · have h3 := h b hb
          have h4 := HBL.out
          have h5 := HZ4.out
          rcases HS2X.out b e with h2 | h2
          · rcases HF1.out b h2 with h6 | h6
            · have := HDD.out b h6; omega
            · omega
          · omega
    case pos =>
      subst he0
      have hdum := HT1.out
      clear hdum
      have HNB := Lib.hid (show D2 S → False from fun e => by
        have := HSP.out; have := HBB.out
        have := HSL.out
        rcases HS2.out S e with h | h
        · exact HGD.out S ((HG.out S).2 (.inl rfl)) h
        · omega)
      have HNA := Lib.hid (show D2 A → False from fun e => by
        have := HSP.out; have := HBB.out
        have := HAL.out
        rcases HS2.out A e with h | h
        · exact HGD.out A ((HG.out A).2 (.inr (.inl rfl))) h
        · omega)
      have HVV := Lib.hid (show StoreVals (fun b => ¬ K b) w5 x Ad cd Af cf Ao co from HV.out.keep fun b hq hl => ⟨hq, HOA.out.block b hl.lt (fun e => hq (HK.out b e))⟩)
      go_wp2_with fail
      refine wp_region_held_drew (S := fun V => Below w5.heap.size w5 V) (by kernel_rfl) ((Below.refl _ _).drew) (fun s0 => ?_)
      obtain ⟨u1, hv1⟩ : ∃ V, V = w5.drew := ⟨_, rfl⟩
      rw [← hv1] at s0 ⊢
      have t1 : Below w5.heap.size w5 u1 := s0
      have hz1 : u1.heap.size = w5.heap.size := by rw [hv1]; rfl
      clear hv1 s0
      refine tkHV (i := 0) (v := .pointer (some ⟨S, 0, none⟩)) rfl t1 ?_
      go_simp
      refine tkHV (i := 1) (v := .pointer (some ⟨S, 0, none⟩)) rfl t1 ?_
      go_simp
      refine tkHV (i := 2) (v := .pointer (some ⟨S, 16, none⟩)) rfl t1 ?_
      go_simp
      refine tkH (i := 3) (v := .slice Af x.flows.length cf) rfl (Or.inl ⟨by rfl, fun w' h => by have hrw := row_call (h : Below w5.heap.size w5 w') HRW5.out; unfold StoreRow at hrw; have x16 := cell_row hrw 16; go_simp⟩) t1 ?_
      go_simp
      refine tkHV (i := 4) (v := .pointer (some ⟨S, 0, none⟩)) rfl t1 ?_
      go_simp
      refine tkHV (i := 5) (v := .pointer (some ⟨S, 0, none⟩)) rfl t1 ?_
      go_simp
      refine tkHV (i := 6) (v := .pointer (some ⟨S, 8, none⟩)) rfl t1 ?_
      go_simp
      refine tkH (i := 7) (v := .agg #[.int .i64 x.cur.epoch, .int .i64 x.cur.gen, .int .i64 x.cur.log, .int .i64 x.cur.pages, .int .i64 x.cur.head, .int .i64 x.cur.seq, .int .i64 x.cur.long, .slice Ad x.cur.dir.length cd]) rfl (Or.inl ⟨by rfl, fun w' h => by have hrw := row_call (h : Below w5.heap.size w5 w') HRW5.out; unfold StoreRow at hrw; have x8 := cell_row hrw 8; have x9 := cell_row hrw 9; have x10 := cell_row hrw 10; have x11 := cell_row hrw 11; have x12 := cell_row hrw 12; have x13 := cell_row hrw 13; have x14 := cell_row hrw 14; have x15 := cell_row hrw 15; go_simp⟩) t1 ?_
      go_simp
      refine wpAnyH_all (rs := [8]) (by kernel_rfl) (by simp) ?_
      intro i2 hi2
      obtain rfl : i2 = 8 := by simpa using hi2
      clear hi2
      refine wpOp_step rfl (fun Kz hK => ?_)
      go_simp
      have hvv := HVV.out.keep (Q' := fun b => ¬ K b) fun b hq hl => ⟨hq, t1.block b hl.lt⟩
      refine (reach_calls (Q := fun b => ¬ K b) (Q' := fun b => ¬ K b) hvv.flows.val hvv.cur HOK.out.flows (Nat.le_trans HOK.out.dir (by decide))).mono ?_
      rintro e w6 ⟨u6, rfl, hacc6, hb6⟩
      have t2 : Below w5.heap.size w5 w6 := t1.trans (hb6.mono t1.size)
      have HA6 := Lib.hid hacc6
      have HW6 := Lib.hid (show u1.heap.size = w5.heap.size ∧ u1.heap.size ≤ w6.heap.size from ⟨hz1, hb6.size⟩)
      clear hvv hb6 hacc6 hz1
      refine hK _ _ ⟨t2, ?_⟩
      clear hK Kz
      obtain ⟨A6, c6, rfl, _, _⟩ := Rep.acc_form HA6.out
      obtain ⟨nr, hnr⟩ : ∃ nr, (reachOf x.flows x.cur).length = nr := ⟨_, rfl⟩
      rw [hnr]
      have HNR := Lib.hid hnr
      clear hnr
      refine tkHV (i := 9) (v := .slice A6 nr c6) rfl t2 ?_
      go_simp
      refine wpAnyH_done (by kernel_rfl) ?_ _
      have HB6 := Lib.hid t2
      have HRW6 := Lib.hid (show StoreRow w6 S (.pointer (some ⟨P, 0, none⟩)) x A Ad cd Af cf Ao co from row_call t2 HRW5.out)
      clear t1 t2
      go_wp2_with fail
      refine wp_region_held_drew (S := fun V => Only (fun b => b = A) w6 V) (by kernel_rfl) ((Only.refl _ _).drw) (fun s0 => ?_)
      obtain ⟨u2, hv1⟩ : ∃ V, V = w6.drew := ⟨_, rfl⟩
      rw [← hv1] at s0 ⊢
      have t1 : Only (fun b => b = A) w6 u2 := s0
      have hb2 : Below w6.heap.size w6 u2 := by rw [hv1]; exact (Below.refl _ _).drew
      have HA2 := Lib.hid ((HA5.out.call HB6.out).call hb2)
      have HOT := Lib.hid (show (Rep.int .i64).list.val (fun b => ¬ K b) u2 (.slice Ao x.other.length co) x.other from Rep.val_below (Rep.val_below HVV.out.other.val HB6.out (fun _ _ h => h.lt)) hb2 (fun _ _ h => h.lt))
      have HZ2 := Lib.hid (show u2.heap.size = w6.heap.size by rw [hv1]; rfl)
      clear hv1 s0 hb2
      refine tkHV (i := 0) (v := .pointer (some ⟨S, 0, none⟩)) rfl t1 ?_
      go_simp
      refine tkHV (i := 1) (v := .pointer (some ⟨S, 0, none⟩)) rfl t1 ?_
      go_simp
      refine tkHV (i := 2) (v := .pointer (some ⟨S, 18, none⟩)) rfl t1 ?_
      go_simp
      refine tkH (i := 3) (v := .pointer (some ⟨A, 0, none⟩)) rfl (Or.inl ⟨by rfl, fun w' h => by have hrw := row_only (h : Only (fun b => b = A) w6 w') HRW6.out HN.out.2; unfold StoreRow at hrw; have x18 := cell_row hrw 18; go_simp⟩) t1 ?_
      go_simp
      refine tkHV (i := 4) (v := .pointer (some ⟨S, 0, none⟩)) rfl t1 ?_
      go_simp
      refine tkHV (i := 5) (v := .pointer (some ⟨S, 0, none⟩)) rfl t1 ?_
      go_simp
      refine tkHV (i := 6) (v := .pointer (some ⟨S, 17, none⟩)) rfl t1 ?_
      go_simp
      refine tkH (i := 7) (v := .slice Ao x.other.length co) rfl (Or.inl ⟨by rfl, fun w' h => by have hrw := row_only (h : Only (fun b => b = A) w6 w') HRW6.out HN.out.2; unfold StoreRow at hrw; have x17 := cell_row hrw 17; go_simp⟩) t1 ?_
      go_simp
      refine wpAnyH_all (rs := [8]) (by kernel_rfl) (by simp) ?_
      intro i2 hi2
      obtain rfl : i2 = 8 := by simpa using hi2
      clear hi2
      refine wpOp_step rfl (fun Kz hK => ?_)
      go_simp
      refine (adrop_calls HA2.out HOT.out HOL.out HRL.out (by have := HBA.out; have := HSP.out; have := HB5.out; have := HB6.out.size; have := HZ2.out; have := HZ4.out; omega) (by decide) HSM.out).mono ?_
      rintro e w7 ⟨rfl, ⟨v3, ha7, hv7⟩, ho7⟩
      have t2 : Only (fun b => b = A) w6 w7 := t1.trans ho7
      have HA7 := Lib.hid ha7
      have HV7 := Lib.hid (show v3 = v1 ∨ ∀ b, v3.ownBlock = some b → w6.heap.size ≤ b from hv7.imp id fun h b hb => by have := h b hb; have := HZ2.out; omega)
      have HO7 := Lib.hid t2
      clear ha7 hv7 ho7
      refine hK _ _ ⟨t2, ?_⟩
      clear hK Kz
      refine wpAnyH_done (by kernel_rfl) ?_ _
      have HRW7 := Lib.hid (show StoreRow w7 S (.pointer (some ⟨P, 0, none⟩)) x A Ad cd Af cf Ao co from row_only HO7.out HRW6.out HN.out.2)
      have HX7 := Lib.hid (show w7.heap[w3.heap.size]? = some (.cells #[.int .i64 y.epoch, .int .i64 y.gen, .int .i64 y.log, .int .i64 y.pages, .int .i64 y.head, .int .i64 y.seq, .int .i64 y.long, .slice Ay y.dir.length cy] 37 (0, 0)) from row_only HO7.out (row_call HB6.out HX5.out) (fun e => by have := HAL.out; have := HSP.out; omega))
      clear t1 t2
      go_wp2_with fail
      have hrow := HRW7.out
      unfold StoreRow at hrow
      have c7 := cell_row hrow 7
      refine wp_region_tail (S := fun V => Only (fun b => b = S) w7 V ∧ V.cell? ⟨S, 7, none⟩ = some (.int .i64 x.slot)) (T := [23]) (by kernel_rfl) (⟨(Only.refl _ _).drw, c7⟩) (fun s0 => ?_)
      obtain ⟨v8, hv1⟩ : ∃ V, V = w7.drew := ⟨_, rfl⟩
      rw [← hv1] at s0 ⊢
      have hrow8 : v8.heap[S]? = _ := (show v8.heap[S]? = w7.heap[S]? by rw [hv1]; rfl).trans hrow
      have HR8 := Lib.hid hrow8
      have HB8 := Lib.hid (show Below w7.heap.size w7 v8 by rw [hv1]; exact (Below.refl _ _).drew)
      clear hrow c7
      have y7 := cell_row hrow8 7
      have z7 := frozen_row hrow8 7
      have y8 := cell_row hrow8 8
      have z8 := frozen_row hrow8 8
      have y9 := cell_row hrow8 9
      have z9 := frozen_row hrow8 9
      have y10 := cell_row hrow8 10
      have z10 := frozen_row hrow8 10
      have y11 := cell_row hrow8 11
      have z11 := frozen_row hrow8 11
      have y12 := cell_row hrow8 12
      have z12 := frozen_row hrow8 12
      have y13 := cell_row hrow8 13
      have z13 := frozen_row hrow8 13
      have y14 := cell_row hrow8 14
      have z14 := frozen_row hrow8 14
      have y15 := cell_row hrow8 15
      have z15 := frozen_row hrow8 15
      have y16 := cell_row hrow8 16
      have z16 := frozen_row hrow8 16
      have y17 := cell_row hrow8 17
      have z17 := frozen_row hrow8 17
      clear hv1 hrow8
      have iws : IntKind.i64.wrap (1 - x.slot) = 1 - x.slot := IntWalk.i64_in _ (by have := H01.out; omega)
      refine tkTV (i := 0) (v := .pointer (some ⟨S, 0, none⟩)) rfl s0 ?_
      go_simp
      refine tkTV (i := 1) (v := .pointer (some ⟨S, 0, none⟩)) rfl s0 ?_
      go_simp
      refine tkTV (i := 2) (v := .pointer (some ⟨S, 0, none⟩)) rfl s0 ?_
      go_simp
      refine tkTV (i := 3) (v := .pointer (some ⟨S, 0, none⟩)) rfl s0 ?_
      go_simp
      refine tkTV (i := 7) (v := .pointer (some ⟨S, 0, none⟩)) rfl s0 ?_
      go_simp
      refine tkTV (i := 8) (v := .pointer (some ⟨S, 0, none⟩)) rfl s0 ?_
      go_simp
      refine tkTV (i := 4) (v := .slice A6 nr c6) rfl s0 ?_
      go_simp
      refine tkTV (i := 6) (v := .slice Ff nf fc) rfl s0 ?_
      go_simp
      refine tkT (i := 5) (v := .agg #[.int .i64 y.epoch, .int .i64 y.gen, .int .i64 y.log, .int .i64 y.pages, .int .i64 y.head, .int .i64 y.seq, .int .i64 y.long, .slice Ay y.dir.length cy]) rfl (Or.inl ⟨by rfl, fun w' h => by have x := row_only h.1 HX7.out (fun e => by have := HSP.out; omega); have x0 := cell_row x 0; have x1 := cell_row x 1; have x2 := cell_row x 2; have x3 := cell_row x 3; have x4 := cell_row x 4; have x5 := cell_row x 5; have x6 := cell_row x 6; have x7 := cell_row x 7; go_simp⟩) s0 ?_
      go_simp
      refine tkTV (i := 9) (v := .pointer (some ⟨S, 7, none⟩)) rfl s0 ?_
      go_simp
      refine tkT (i := 10) (v := .int .i64 x.slot) rfl (Or.inl ⟨by rfl, fun w' h => by have x := h.2; go_simp⟩) s0 ?_
      go_simp
      refine tkTV (i := 11) (v := .int .i64 (1 - x.slot)) rfl s0 ?_
      go_simp
      refine tkTV (i := 12) (v := .pointer (some ⟨S, 0, none⟩)) rfl s0 ?_
      go_simp
      refine tkTV (i := 13) (v := .pointer (some ⟨S, 17, none⟩)) rfl s0 ?_
      go_simp
      refine wpAnyT_one (i := 14) rfl (by kernel_rfl) rfl (fun Kz hK => ?_)
      go_simp
      have p0 : Only (fun b => b = S) w7 (v8.setCell ⟨S, 17, none⟩ (.slice A6 nr c6)) := Only.put (s0.1) rfl
      have q0 : World.cell? (v8.setCell ⟨S, 17, none⟩ (.slice A6 nr c6)) ⟨S, 7, none⟩ = some (.int .i64 x.slot) := by go_simp
      refine hK _ _ ⟨⟨p0, q0⟩, ?_⟩
      clear hK Kz
      refine tkTV (i := 15) (v := .pointer (some ⟨S, 0, none⟩)) rfl ⟨p0, q0⟩ ?_
      go_simp
      refine tkTV (i := 16) (v := .pointer (some ⟨S, 8, none⟩)) rfl ⟨p0, q0⟩ ?_
      go_simp
      refine wpAnyT_one (i := 17) rfl (by kernel_rfl) rfl (fun Kz hK => ?_)
      go_simp
      have p1 : Only (fun b => b = S) w7 (((((((((v8.setCell ⟨S, 17, none⟩ (.slice A6 nr c6)).setCell ⟨S, 8, none⟩ (.int .i64 y.epoch)).setCell ⟨S, 9, none⟩ (.int .i64 y.gen)).setCell ⟨S, 10, none⟩ (.int .i64 y.log)).setCell ⟨S, 11, none⟩ (.int .i64 y.pages)).setCell ⟨S, 12, none⟩ (.int .i64 y.head)).setCell ⟨S, 13, none⟩ (.int .i64 y.seq)).setCell ⟨S, 14, none⟩ (.int .i64 y.long)).setCell ⟨S, 15, none⟩ (.slice Ay y.dir.length cy)) := Only.put (Only.put (Only.put (Only.put (Only.put (Only.put (Only.put (Only.put (p0) rfl) rfl) rfl) rfl) rfl) rfl) rfl) rfl
      have q1 : World.cell? (((((((((v8.setCell ⟨S, 17, none⟩ (.slice A6 nr c6)).setCell ⟨S, 8, none⟩ (.int .i64 y.epoch)).setCell ⟨S, 9, none⟩ (.int .i64 y.gen)).setCell ⟨S, 10, none⟩ (.int .i64 y.log)).setCell ⟨S, 11, none⟩ (.int .i64 y.pages)).setCell ⟨S, 12, none⟩ (.int .i64 y.head)).setCell ⟨S, 13, none⟩ (.int .i64 y.seq)).setCell ⟨S, 14, none⟩ (.int .i64 y.long)).setCell ⟨S, 15, none⟩ (.slice Ay y.dir.length cy)) ⟨S, 7, none⟩ = some (.int .i64 x.slot) := by go_simp
      refine hK _ _ ⟨⟨p1, q1⟩, ?_⟩
      clear hK Kz
      refine tkTV (i := 18) (v := .pointer (some ⟨S, 0, none⟩)) rfl ⟨p1, q1⟩ ?_
      go_simp
      refine tkTV (i := 19) (v := .pointer (some ⟨S, 16, none⟩)) rfl ⟨p1, q1⟩ ?_
      go_simp
      refine wpAnyT_one (i := 20) rfl (by kernel_rfl) rfl (fun Kz hK => ?_)
      go_simp
      have p2 : Only (fun b => b = S) w7 ((((((((((v8.setCell ⟨S, 17, none⟩ (.slice A6 nr c6)).setCell ⟨S, 8, none⟩ (.int .i64 y.epoch)).setCell ⟨S, 9, none⟩ (.int .i64 y.gen)).setCell ⟨S, 10, none⟩ (.int .i64 y.log)).setCell ⟨S, 11, none⟩ (.int .i64 y.pages)).setCell ⟨S, 12, none⟩ (.int .i64 y.head)).setCell ⟨S, 13, none⟩ (.int .i64 y.seq)).setCell ⟨S, 14, none⟩ (.int .i64 y.long)).setCell ⟨S, 15, none⟩ (.slice Ay y.dir.length cy)).setCell ⟨S, 16, none⟩ (.slice Ff nf fc)) := Only.put (p1) rfl
      have q2 : World.cell? ((((((((((v8.setCell ⟨S, 17, none⟩ (.slice A6 nr c6)).setCell ⟨S, 8, none⟩ (.int .i64 y.epoch)).setCell ⟨S, 9, none⟩ (.int .i64 y.gen)).setCell ⟨S, 10, none⟩ (.int .i64 y.log)).setCell ⟨S, 11, none⟩ (.int .i64 y.pages)).setCell ⟨S, 12, none⟩ (.int .i64 y.head)).setCell ⟨S, 13, none⟩ (.int .i64 y.seq)).setCell ⟨S, 14, none⟩ (.int .i64 y.long)).setCell ⟨S, 15, none⟩ (.slice Ay y.dir.length cy)).setCell ⟨S, 16, none⟩ (.slice Ff nf fc)) ⟨S, 7, none⟩ = some (.int .i64 x.slot) := by go_simp
      refine hK _ _ ⟨⟨p2, q2⟩, ?_⟩
      clear hK Kz
      refine tkTV (i := 21) (v := .pointer (some ⟨S, 0, none⟩)) rfl ⟨p2, q2⟩ ?_
      go_simp
      refine tkTV (i := 22) (v := .pointer (some ⟨S, 7, none⟩)) rfl ⟨p2, q2⟩ ?_
      go_simp
      refine wpAnyT_last (i := 23) rfl (by kernel_rfl) rfl (fun Kz hK => ?_)
      go_simp
      have p3 : Only (fun b => b = S) w7 (((((((((((v8.setCell ⟨S, 17, none⟩ (.slice A6 nr c6)).setCell ⟨S, 8, none⟩ (.int .i64 y.epoch)).setCell ⟨S, 9, none⟩ (.int .i64 y.gen)).setCell ⟨S, 10, none⟩ (.int .i64 y.log)).setCell ⟨S, 11, none⟩ (.int .i64 y.pages)).setCell ⟨S, 12, none⟩ (.int .i64 y.head)).setCell ⟨S, 13, none⟩ (.int .i64 y.seq)).setCell ⟨S, 14, none⟩ (.int .i64 y.long)).setCell ⟨S, 15, none⟩ (.slice Ay y.dir.length cy)).setCell ⟨S, 16, none⟩ (.slice Ff nf fc)).setCell ⟨S, 7, none⟩ (.int .i64 (1 - x.slot))) := Only.put (p2) rfl
      obtain ⟨w9, hw9⟩ : ∃ w9, (((((((((((v8.setCell ⟨S, 17, none⟩ (.slice A6 nr c6)).setCell ⟨S, 8, none⟩ (.int .i64 y.epoch)).setCell ⟨S, 9, none⟩ (.int .i64 y.gen)).setCell ⟨S, 10, none⟩ (.int .i64 y.log)).setCell ⟨S, 11, none⟩ (.int .i64 y.pages)).setCell ⟨S, 12, none⟩ (.int .i64 y.head)).setCell ⟨S, 13, none⟩ (.int .i64 y.seq)).setCell ⟨S, 14, none⟩ (.int .i64 y.long)).setCell ⟨S, 15, none⟩ (.slice Ay y.dir.length cy)).setCell ⟨S, 16, none⟩ (.slice Ff nf fc)).setCell ⟨S, 7, none⟩ (.int .i64 (1 - x.slot))) = w9 := ⟨_, rfl⟩
      have hrow9 : w9.heap[S]? = some (.cells #[.pointer (some ⟨P, 0, none⟩), .int .i64 x.log, .int .i64 x.pages, .int .i64 1, .int .i64 1, .slice none 0 0, .int .i64 x.epoch, .int .i64 (1 - x.slot), .int .i64 y.epoch, .int .i64 y.gen, .int .i64 y.log, .int .i64 y.pages, .int .i64 y.head, .int .i64 y.seq, .int .i64 y.long, .slice Ay y.dir.length cy, .slice Ff nf fc, .slice A6 nr c6, .pointer (some ⟨A, 0, none⟩), .bool x.dead] 106 (0, 0)) := by rw [← hw9]; exact heap_setL (heap_setL (heap_setL (heap_setL (heap_setL (heap_setL (heap_setL (heap_setL (heap_setL (heap_setL (heap_setL (HR8.out)))))))))))
      rw [hw9] at p3 ⊢
      have HO9 := Lib.hid p3
      have HR9 := Lib.hid hrow9
      refine hK _ _ ?_
      clear hK Kz hw9 hrow9 p0 p1 p2 p3 q0 q1 q2 s0 iws y7 z7 y8 z8 y9 z9 y10 z10 y11 z11 y12 z12 y13 z13 y14 z14 y15 z15 y16 z16 y17 z17
      refine wpAnyT_done (by kernel_rfl) ?_ _
      go_wp2_with fail
      go_ret
      have hps : pubS x refs st l head seq = (x2, (addS (-1) rf x.other).getD rf, s2, 0) := by rw [HPS.out, HT1.out, if_pos rfl]
      rw [HKE.out, hps]
      have hsp := HSP.out
      have hal := HAL.out
      have hsl := HSL.out
      have hg := HG.out
      have hkk := HK.out
      have hbb := HBB.out
      have hb5 : w4.heap.size ≤ w5.heap.size := HO2.out.size
      have hz4 := HZ4.out
      have hb6 := HB6.out.size
      have hw6 := HW6.out
      have h67 := HO7.out.size
      have h79 := HO9.out.size
      have hdd := HDD.out
      have hd5 := HD2.out.1
      have hne := HN.out.2
      have hd2 : ∀ b, D2 b → D b ∨ B ≤ b := HS2.out
      have hv3 : ∀ b, v3.ownBlock = some b → G b ∨ (B5 ≤ b ∧ b < B) ∨ w6.heap.size ≤ b := fun b hb => by
        rcases HV7.out with h | h
        · rw [h] at hb
          rcases HV1.out with h | h
          · rw [h] at hb; exact .inl ((hg b).2 (.inr (.inr hb)))
          · exact .inr (.inl (h b hb))
        · exact .inr (.inr (h b hb))
      have hB3 : B ≤ w3.heap.size := HBL.out
      have hlt : ∀ b, G b → b < W.heap.size := fun b hb => by
        rcases (hg b).1 hb with h | h | h
        · rw [h]; exact hsl
        · rw [h]; exact hal
        · exact HVL.out b h
      have hvS3 : v3.ownBlock ≠ some S := fun e => by
        rcases HV7.out with h | h
        · rw [h] at e
          rcases HV1.out with h | h
          · rw [h] at e; exact HN.out.1 e
          · have := h S e; omega
        · have := h S e; omega
      have hdv : DevD D2 w9 P (n + k + 1) s2 := DevD.only (DevD.only (HD2.out.below HB6.out) HO7.out (fun b e => by rw [e]; exact HNA.out)) HO9.out (fun b e => by rw [e]; exact HNB.out)
      have hrow : StoreRow w9 S (.pointer (some ⟨P, 0, none⟩)) x2 A Ay cy Ff fc A6 c6 := by
        obtain ⟨n0, n1, n2, n3, n4, n5, n6⟩ := HNS.out
        have h := HR9.out
        unfold StoreRow
        rw [n0, n1, n2, n3, n4, n5, n6, HNF.out, HNR.out, ← HDE.out]
        exact h
      have hk45 : ∀ b, w2.heap.size ≤ b → b < B5 → w9.heap[b]? = w4.heap[b]? := fun b h1 h2 => by
        have h3 : ¬ D1 b := fun e => by
          rcases HF1.out b e with h | h
          · have := hdd b h; omega
          · omega
        exact (HO9.out.block b (by omega) (by show b ≠ S; omega)).trans ((HO7.out.block b (by omega) (by show b ≠ A; omega)).trans ((HB6.out.block b (by omega)).trans (HO2.out.block b (by omega) h3)))
      have hvals : StoreVals (fun b => (w2.heap.size ≤ b ∧ b < B5) ∨ (w5.heap.size ≤ b ∧ b < w6.heap.size)) w9 x2 Ay cy Ff fc A6 c6 := by
        obtain ⟨n0, n1, n2, n3, n4, n5, n6⟩ := HNS.out
        refine ⟨?_, ?_, ?_⟩
        · rw [n0]
          exact Rep.val_keep (fun b hq _ => ⟨.inl hq, hk45 b hq.1 hq.2⟩) HSU4.out
        · have e := Rep.val_slice (Rep.val_keep (Q' := fun b => (w2.heap.size ≤ b ∧ b < B5) ∨ (w5.heap.size ≤ b ∧ b < w6.heap.size)) (fun b hq _ => ⟨.inl hq, hk45 b hq.1 hq.2⟩) HFL4.out)
          exact e
        · rw [n5]
          have e := Rep.acc_val HA6.out
          rw [HNR.out] at e
          have e2 := Rep.val_slice (Rep.val_keep (w' := w9) (Q' := fun b => (w2.heap.size ≤ b ∧ b < B5) ∨ (w5.heap.size ≤ b ∧ b < w6.heap.size)) (fun b hq hl => by
            have hq2 : w5.heap.size ≤ b := by
              rcases hq with hq | hq
              · exact hq.elim
              · have := (Rep.acc_own HA6.out b (by rw [HNR.out]; exact hq)).1; omega
            have hl2 := hl.lt
            exact ⟨.inr ⟨hq2, hl2⟩, (HO9.out.block b (by omega) (by show b ≠ S; omega)).trans (HO7.out.block b (by omega) (by show b ≠ A; omega))⟩) e)
          exact e2
      have hal9 : AllocAt w9 A base ((addS (-1) rf x.other).getD rf) v3 := HA7.out.keep (HO9.out.block A (by omega) (fun e => hne e.symm)) (fun b hb => HO9.out.block b (Rep.acc_own HA7.out.acc b hb).2 (fun e => by rw [e] at hb; exact hvS3 hb))
      refine pub_at (Qv := fun b => (w2.heap.size ≤ b ∧ b < B5) ∨ (w5.heap.size ≤ b ∧ b < w6.heap.size)) hdv hrow hvals ?_ hal9 (by have := HBA.out; omega) hne hvS3 ((hg S).2 (.inl rfl)) ((hg A).2 (.inr (.inl rfl))) ?_ HNB.out HNA.out (fun b hb => (hd2 b hb).imp id (fun e => by omega)) ?_
      · intro b hq
        refine ⟨.inr (by omega), by omega, by omega, fun e => ?_, fun e => ?_⟩
        · rcases hv3 b e with h | h | h
          · have := hlt b h; omega
          · omega
          · omega
        · rcases hd2 b e with h | h
          · have := hdd b h; omega
          · rcases hq with hq | hq
            · omega
            · have := hd5 b e; omega
      · intro b hb
        refine ⟨(hv3 b hb).imp id (fun h => by omega), fun e => ?_⟩
        rcases hv3 b hb with h | h | h
        · rcases hd2 b e with h2 | h2
          · exact HGD.out b h h2
          · have := hlt b h; omega
        · rcases HS2X.out b e with h2 | h2
          · rcases HF1.out b h2 with h3 | h3
            · have := hdd b h3; omega
            · omega
          · omega
        · have := hd5 b e; omega
      · refine HOA.out.trans (Only.trans (Only.of_below HB6.out) (Only.trans (HO7.out.wid fun b e => .inl (by rw [e]; exact (hg A).2 (.inr (.inl rfl)))) (HO9.out.wid fun b e => .inl (by rw [e]; exact (hg S).2 (.inl rfl)))))
end Go.Proofs.YtghbfbohnoebiaaGreat
namespace Go.Proofs.YtghbfbohnoebiaaGreat
open Go.RowKit Go.Shelf
attribute [local go_sem] Oper.semAt_some

theorem confSectors_calls {log pages : Int} (h0 : -1000000 ≤ log ∧ log ≤ 1000000) (h1 : -1000000 ≤ pages ∧ pages ≤ 1000000) (W : World) : Calls Tryz.prog 45 #[.agg #[.int .i64 log, .int .i64 pages, .int .i64 1, .int .i64 1, .slice none 0 0]] W fun e W' => e = .returned (.int .i64 (2 + log + pages)) ∧ Below W.heap.size W W' := by
  have i1 : IntKind.i64.wrap (2 + log) = 2 + log := IntWalk.i64_in _ ⟨by omega, by omega⟩
  have i2 : IntKind.i64.wrap (2 + log + pages) = 2 + log + pages := IntWalk.i64_in _ ⟨by omega, by omega⟩
  go_enter Tryz.func45, Tryz.ntmps45
  go_wp2_with fail
  go_ret
  exact ⟨rfl, (Below.refl _ _).alloc (Nat.le_refl _) _⟩
/-- A blank store of an epoch. -/
def openS (log pages ep : Int) : StSt := ⟨log, pages, ep, 1, noSuper, [], [], false⟩
theorem fits_need {fl : List DFlow} {refs : List Int} (h : fitsFlows fl refs = true) : needFlows fl ≤ refs.length := by
  unfold fitsFlows at h
  rw [Bool.and_eq_true, decide_eq_true_iff] at h
  have := List.countP_le_length (p := fun r : Int => decide (r ≤ 0)) (l := refs)
  have h1 := h.1
  unfold freeN at h1
  omega
theorem StoreAt.shrink {K K' D G : Nat → Prop} {W : World} {S P : Nat} {x : StSt} {refs : List Int} (h : StoreAt K D G W S P x refs) (h1 : ∀ b, K' b → K b) (h2 : ∀ b, G b ∨ D b → K' b) : StoreAt K' D G W S P x refs := by
  obtain ⟨A, base, v, Ad, cd, Af, cf, Ao, co, hrow, hv, ha, hbase, hG, hSA, hvS, hGD, hK⟩ := h
  exact ⟨A, base, v, Ad, cd, Af, cf, Ao, co, hrow, hv.keep fun b hq _ => ⟨fun e => hq (h1 b e), rfl⟩, ha, hbase, hG, hSA, hvS, hGD, h2⟩
def FormatPost (K D : Nat → Prop) (W : World) (P n : Nat) (r : StSt × List Int × DiskSt × Int) (e : Ending) (W' : World) : Prop :=
  ∃ S, e = .returned (.tuple #[.pointer (some ⟨S, 0, none⟩), .int .i64 0]) ∧ ∃ D' G' : Nat → Prop, DevD D' W' P n r.2.2.1 ∧ StoreAt (fun b => (K b ∧ b < W.heap.size) ∨ G' b ∨ D' b) D' G' W' S P r.1 r.2.1 ∧
    (∀ b, D' b → D b ∨ W.heap.size ≤ b) ∧ (∀ b, G' b → W.heap.size ≤ b) ∧ Only D W W'
theorem conf27_range {log pages : Int} (h : confRight (conf27 log pages) = true) : 2 ≤ log ∧ log ≤ 1024 ∧ 4 ≤ pages ∧ pages ≤ 1024 := by
  have g := (right_facts h).1
  have e0 : (conf27 log pages).log = log := rfl
  have e1 : (conf27 log pages).pages = pages := rfl
  omega

set_option maxRecDepth 100000 in
set_option maxHeartbeats 4000000 in
/-- Format: a first snapshot -/
theorem format_lays {K D Q' : Nat → Prop} {W : World} {P n : Nat} {st st1 st2 st3 : DiskSt} {two : List (List UInt8)} {ep log pages : Int} {vl : Value} {l : List DStream} (hD : DevD D W P n st) (hn : n ≤ 600000000) (hQ : ∀ b, Q' b → ¬ D b) (hok : SecOk st) (hok1 : SecOk st1) (hc : confRight (conf27 log pages) = true) (hsz : (st.safe.length : Int) = 2 + log + pages) (hx : rStream.list.val Q' W vl l) (hl : StreamsOk l) (hr : riseB l = true)
    (hfit : fitsFlows (flowsOf [] l) (List.replicate pages.toNat 0) = true) (h1 : allSt st [0, 1] = (st1, two, 0)) (h2 : topS (conf27 log pages) st1 two = (st2, ep, 0)) (h3 : wipeS st2 = (st3, 0)) (hep : (Lit.int .i64 ep).wf = true) (htwo : two.length ≤ 1000)
    (h4 : (pubS (openS log pages ep) (List.replicate pages.toNat 0) st3 l 0 0).2.2.2 = 0) :
    Calls Tryz.prog 12 #[.pointer (some ⟨P, 0, none⟩), .int .i64 log, .int .i64 pages, vl] W (FormatPost K D W P (n + 2 + pubK (openS log pages ep) l + 1) (pubS (openS log pages ep) (List.replicate pages.toNat 0) st3 l 0 0)) := by
  have HCR := Lib.hid (show checkOf (confRight (conf27 log pages)) = 0 by rw [hc]; rfl)
  have hrg := conf27_range hc
  have HRG := Lib.hid (show (-1000000 ≤ log ∧ log ≤ 1000000) ∧ (-1000000 ≤ pages ∧ pages ≤ 1000000) from by omega)
  have HPG := Lib.hid (show 0 ≤ pages ∧ pages ≤ 1024 from by omega)
  have HWF := Lib.hid (show (Lit.int .i64 log).wf = true ∧ (Lit.int .i64 pages).wf = true from ⟨wf_i64 (by omega) (by omega), wf_i64 (by omega) (by omega)⟩)
  have HSZ := Lib.hid hsz
  have HR := Lib.hid hr
  have HDV := Lib.hid hD
  have HX := Lib.hid hx
  have HFIT := Lib.hid hfit
  have HL := Lib.hid hl
  have HCC := Lib.hid hc
  obtain ⟨Al, cl, rfl, _, _, _⟩ := Rep.val_list hx
  clear hD hsz hx hr hrg hfit hl
  have HN := Lib.hid hn
  have HOK := Lib.hid hok
  have HOK1 := Lib.hid hok1
  have HQ := Lib.hid hQ
  have H1 := Lib.hid h1
  have H2 := Lib.hid h2
  have H3 := Lib.hid h3
  have H4 := Lib.hid h4
  have HEP := Lib.hid hep
  have HTW := Lib.hid htwo
  clear hn hok hok1 hQ h1 h2 h3 h4 hep htwo
  go_enter Tryz.func12, Tryz.ntmps12
  go_wp2_with fail
  refine (layout_calls _ _ _).mono ?_
  rintro e w1 ⟨rfl, hb⟩
  obtain ⟨w2, hw2⟩ : ∃ w2, w1.alloc (.cells #[.int .i64 log, .int .i64 pages, .int .i64 1, .int .i64 1, .slice none 0 0] 34) = w2 := ⟨_, rfl⟩
  have hb2 : Below W.heap.size W w2 := by rw [← hw2]; exact hb.alloc hb.size _
  have HC2 := Lib.hid (show w2.heap[w1.heap.size]? = some (.cells #[.int .i64 log, .int .i64 pages, .int .i64 1, .int .i64 1, .slice none 0 0] 34 (0, 0)) by rw [← hw2]; exact heap_alloc_new _ _)
  have HB2 := Lib.hid hb2
  have HX2 := Lib.hid (Rep.val_below HX.out hb2 (fun _ _ h => h.lt))
  have HZ2 := Lib.hid (show W.heap.size ≤ w1.heap.size ∧ w2.heap.size = w1.heap.size + 1 from ⟨hb.size, by rw [← hw2]; simp⟩)
  have HD2 := Lib.hid (HDV.out.below hb2)
  have HW2 := Lib.hid hw2
  clear hb hb2 hw2
  go_wp2_with fail
  rw [HW2.out]
  clear HW2
  refine wp_region_held_drew (S := fun V => Below w2.heap.size w2 V) (by kernel_rfl) ((Below.refl _ _).drew) (fun s0 => ?_)
  obtain ⟨v1, hv1⟩ : ∃ V, V = w2.drew := ⟨_, rfl⟩
  rw [← hv1] at s0 ⊢
  have t1 : Below w2.heap.size w2 v1 := s0
  clear hv1 s0
  refine tkH (i := 0) (v := .agg #[.int .i64 log, .int .i64 pages, .int .i64 1, .int .i64 1, .slice none 0 0]) rfl (Or.inl ⟨by rfl, fun w' h => by have x := row_call (h : Below w2.heap.size w2 w') HC2.out; have x0 := cell_row x 0; have x1 := cell_row x 1; have x2 := cell_row x 2; have x3 := cell_row x 3; have x4 := cell_row x 4; go_simp⟩) t1 ?_
  go_simp
  refine wpAnyH_all (rs := [1]) (by kernel_rfl) (by simp) ?_
  intro i2 hi2
  obtain rfl : i2 = 1 := by simpa using hi2
  clear hi2
  refine wpOp_step rfl (fun Kz hK => ?_)
  go_simp
  refine (check_calls (conf27_val (Q := fun _ => True) HWF.out.1 HWF.out.2)).mono ?_
  rintro e v2 ⟨rfl, hb⟩
  rw [HCR.out]
  have t2 : Below w2.heap.size w2 v2 := t1.trans (hb.mono t1.size)
  clear hb
  refine hK _ _ ⟨t2, ?_⟩
  clear hK Kz
  refine tkHV (i := 2) (v := .bool false) rfl t2 ?_
  go_simp
  refine tkHV (i := 3) (v := .bool false) rfl t2 ?_
  go_simp
  refine tkHV (i := 4) (v := .pointer (some ⟨P, 0, none⟩)) rfl t2 ?_
  go_simp
  refine tkH (i := 6) (v := .agg #[.int .i64 log, .int .i64 pages, .int .i64 1, .int .i64 1, .slice none 0 0]) rfl (Or.inl ⟨by rfl, fun w' h => by have x := row_call (h : Below w2.heap.size w2 w') HC2.out; have x0 := cell_row x 0; have x1 := cell_row x 1; have x2 := cell_row x 2; have x3 := cell_row x 3; have x4 := cell_row x 4; go_simp⟩) t2 ?_
  go_simp
  refine wpAnyH_all (rs := [5]) (by kernel_rfl) (by simp) ?_
  intro i2 hi2
  obtain rfl : i2 = 5 := by simpa using hi2
  clear hi2
  refine wpOp_step rfl (fun Kz hK => ?_)
  go_simp
  refine (devd_size (HD2.out.below t2)).mono ?_
  rintro e v3 ⟨rfl, hw⟩
  obtain rfl := hw.symm
  clear hw
  rw [HSZ.out]
  refine hK _ _ ⟨t2, ?_⟩
  clear hK Kz
  refine wpAnyH_all (rs := [7]) (by kernel_rfl) (by simp) ?_
  intro i2 hi2
  obtain rfl : i2 = 7 := by simpa using hi2
  clear hi2
  refine wpOp_step rfl (fun Kz hK => ?_)
  go_simp
  refine (confSectors_calls HRG.out.1 HRG.out.2 _).mono ?_
  rintro e v3 ⟨rfl, hb⟩
  have t3 : Below w2.heap.size w2 v3 := t2.trans (hb.mono t2.size)
  clear hb
  refine hK _ _ ⟨t3, ?_⟩
  clear hK Kz
  refine tkHV (i := 8) (v := .bool false) rfl t3 ?_
  go_simp
  refine tkHV (i := 9) (v := .bool false) rfl t3 ?_
  go_simp
  refine tkHV (i := 10) (v := .bool false) rfl t3 ?_
  go_simp
  refine tkHV (i := 11) (v := .slice Al l.length cl) rfl t3 ?_
  go_simp
  refine wpAnyH_all (rs := [12]) (by kernel_rfl) (by simp) ?_
  intro i2 hi2
  obtain rfl : i2 = 12 := by simpa using hi2
  clear hi2
  refine wpOp_step rfl (fun Kz hK => ?_)
  go_simp
  refine (rise_calls (Rep.val_below HX2.out t3 (fun _ _ h => h.lt))).mono ?_
  rintro e v4 ⟨rfl, hb⟩
  rw [HR.out]
  have t4 : Below w2.heap.size w2 v4 := t3.trans (hb.mono t3.size)
  clear hb
  refine hK _ _ ⟨t4, ?_⟩
  clear hK Kz
  refine tkHV (i := 13) (v := .bool false) rfl t4 ?_
  go_simp
  refine tkHV (i := 14) (v := .bool false) rfl t4 ?_
  go_simp
  refine wpAnyH_done (by kernel_rfl) ?_ _
  have T4 := Lib.hid t4
  have hrc := row_call t4 HC2.out
  obtain ⟨x0, x1, x2, x3, x4⟩ := cl5 hrc
  clear hrc hc
  have HZ4 := Lib.hid t4.size
  have hbk := (T4.out : Below w2.heap.size w2 v4)
  clear t1 t2 t3 t4
  go_wp2_with fail
  refine (blank_calls rfl HPG.out.1 HPG.out.2 _).mono ?_
  rintro e w5 ⟨S, A, v, rfl, hrow, hal, hA, hAS, hvS, hb5⟩
  have T5 := Lib.hid (show Below w2.heap.size w2 w5 from hbk.trans (hb5.mono hbk.size))
  have HROW := Lib.hid hrow
  have HAL := Lib.hid hal
  have HO := Lib.hid (show w2.heap.size ≤ A ∧ A < S ∧ (∀ b, v.ownBlock = some b → w2.heap.size ≤ b ∧ b < S) from ⟨Nat.le_trans HZ4.out hA, hAS, fun b hb => ⟨Nat.le_trans HZ4.out (Rep.acc_own hal.acc b hb).1, hvS b hb⟩⟩)
  have HV4 := Lib.hid (show w2.heap.size ≤ v4.heap.size ∧ v4.heap.size ≤ w5.heap.size from ⟨HZ4.out, hb5.size⟩)
  clear hrow hal hA hAS hvS hb5 hbk x0 x1 x2 x3 x4
  go_wp2_with fail
  refine (sfits_calls (fl := []) (Q := fun _ => False) (Q' := Q') (cell_row HROW.out 16) ⟨Nat.le_refl _, by simp [maxLen], [], rfl, fun h => absurd h (by simp)⟩ (cell_row HROW.out 18) HAL.out (by rw [List.length_replicate]; have := HPG.out; omega) (Rep.val_below (Rep.val_below HX.out HB2.out (fun _ _ h => h.lt)) T5.out (fun _ _ h => h.lt)) ⟨by simp, fun f hf => by cases hf⟩ HL.out).mono ?_
  rintro e w6 ⟨rfl, hb6⟩
  have T6 := Lib.hid (show Below w5.heap.size w5 w6 from hb6)
  have T5 := Lib.hid (show Below w2.heap.size w2 w6 from T5.out.trans (hb6.mono T5.out.size))
  clear hb6
  rw [HFIT.out]
  have HA6 := Lib.hid (HAL.out.call T6.out)
  have HROW6 := Lib.hid (show StoreRow w6 S (.pointer (some ⟨P, 0, none⟩)) (blankS log pages) A none 0 none 0 none 0 from row_call T6.out HROW.out)
  have HD6 := Lib.hid (HD2.out.below T5.out)
  have HZ6 := Lib.hid T6.out.size
  have HWD := Lib.hid (show ∀ b, D b → b < W.heap.size from HDV.out.1)
  have HX6 := Lib.hid (Rep.val_below (Rep.val_below HX.out HB2.out (fun _ _ h => h.lt)) T5.out (fun _ _ h => h.lt))
  clear HAL HROW HD2 T6
  go_wp2_with fail
  refine (supersD_calls HD6.out HOK.out).mono ?_
  rintro e w7 ⟨u7, rfl, hu7, hd7, ho7⟩
  have h1 := H1.out
  rw [h1] at hu7 hd7 ⊢
  clear h1
  dsimp only at *
  have HU7 := Lib.hid hu7
  have HD7 := Lib.hid hd7
  have HO7 := Lib.hid ho7
  have hnS : ¬ D S := fun e => by have := HWD.out S e; have := HO.out; have := HZ2.out; omega
  have HNS := Lib.hid hnS
  have HROW7 := Lib.hid (show StoreRow w7 S (.pointer (some ⟨P, 0, none⟩)) (blankS log pages) A none 0 none 0 none 0 from row_only ho7 HROW6.out hnS)
  obtain ⟨A7, c7, rfl, _, _, _⟩ := Rep.val_list hu7
  obtain ⟨m7, hm7⟩ : ∃ m7, two.length = m7 := ⟨_, rfl⟩
  have HM7 := Lib.hid hm7
  rw [hm7]
  rw [hm7] at HU7
  clear hu7 hd7 ho7 hnS hm7
  have HZ7 := Lib.hid HO7.out.size
  go_wp2_with fail
  have hr7 := HROW7.out
  unfold StoreRow at hr7
  refine (top_calls HD7.out (cell_row hr7 0) (cell_row hr7 1) (cell_row hr7 2) (cell_row hr7 3) (cell_row hr7 4) (cell_row hr7 5) HNS.out HCC.out HOK1.out HU7.out (fun b hb e => by have := HWD.out b e; have := HZ6.out; have := HV4.out; have := HZ2.out; omega) HTW.out).mono ?_
  clear hr7
  rintro e w8 ⟨rfl, hd8, ho8⟩
  have h2 := H2.out
  rw [show (blankS log pages).log = log from rfl, show (blankS log pages).pages = pages from rfl] at hd8 ⊢
  rw [h2] at hd8 ⊢
  clear h2
  dsimp only at *
  have HD8 := Lib.hid hd8
  have HO8 := Lib.hid ho8
  have HROW8 := Lib.hid (show StoreRow w8 S (.pointer (some ⟨P, 0, none⟩)) (blankS log pages) A none 0 none 0 none 0 from row_only ho8 HROW7.out HNS.out)
  have HZ8 := Lib.hid HO8.out.size
  have hr8 := HROW8.out
  unfold StoreRow at hr8
  have y6 := cell_row hr8 6
  have z6 := frozen_row hr8 6
  clear hd8 ho8 hr8
  obtain ⟨w9, hw9⟩ : ∃ w9, w8.setCell ⟨S, 6, none⟩ (.int .i64 ep) = w9 := ⟨_, rfl⟩
  have hos : Only (fun b => b = S) w8 w9 := by rw [← hw9]; exact Only.put (Only.refl _ _) rfl
  have hr9 : StoreRow w9 S (.pointer (some ⟨P, 0, none⟩)) (openS log pages ep) A none 0 none 0 none 0 := by rw [← hw9]; exact heap_setL HROW8.out
  have HOS := Lib.hid hos
  have HROW9 := Lib.hid hr9
  have HD9 := Lib.hid (HD8.out.only hos (fun b e => by rw [e]; exact HNS.out))
  have HZ9 := Lib.hid hos.size
  have HW9 := Lib.hid hw9
  clear hos hr9 hw9
  go_wp2_with fail
  try rw [HW9.out]
  clear y6 z6
  go_wp2_with fail
  refine (wipe_calls HD9.out (by have := HN.out; omega)).mono ?_
  rintro e w10 ⟨rfl, ⟨D2, hd10, hs10⟩, ho10⟩
  have h3 := H3.out
  rw [h3] at hd10 ⊢
  clear h3
  dsimp only at *
  have HD10 := Lib.hid hd10
  have HS10 := Lib.hid (show ∀ b, D2 b → D b ∨ w9.heap.size ≤ b from hs10)
  have HO10 := Lib.hid ho10
  clear hd10 hs10 ho10 HW9
  have HROW10 := Lib.hid (show StoreRow w10 S (.pointer (some ⟨P, 0, none⟩)) (openS log pages ep) A none 0 none 0 none 0 from row_only HO10.out HROW9.out HNS.out)
  have HNA := Lib.hid (show ¬ D A from fun e => by have := HWD.out A e; have := HO.out; have := HZ2.out; omega)
  have HNV := Lib.hid (show ∀ b, v.ownBlock = some b → ¬ D b from fun b hb e => by have := HWD.out b e; have := HO.out.2.2 b hb; have := HZ2.out; omega)
  have HSA := Lib.hid (show S ≠ A ∧ v.ownBlock ≠ some S from ⟨fun e => by have := HO.out; omega, fun e => by have := HO.out.2.2 S e; omega⟩)
  have HO610 := Lib.hid (show Only (fun b => D b ∨ b = S) w6 w10 from (HO7.out.wid fun b h => .inl h).trans ((HO8.out.wid fun b h => .inl h).trans ((HOS.out.wid fun b h => .inr h).trans (HO10.out.wid fun b h => .inl h))))
  have HA10 := Lib.hid (show AllocAt w10 A v4.heap.size (List.replicate pages.toNat 0) v from HA6.out.keep (HO610.out.block A HA6.out.lt (fun e => e.elim HNA.out (fun e => HSA.out.1 e.symm))) (fun b hb => HO610.out.block b (Rep.acc_own HA6.out.acc b hb).2 (fun e => e.elim (HNV.out b hb) (fun e => HSA.out.2 (by rw [← e]; exact hb)))))
  have HB6 := Lib.hid (show Below W.heap.size W w6 from HB2.out.trans (T5.out.mono HB2.out.size))
  have HX10 := Lib.hid (show rStream.list.val (fun _ => True) w10 (.slice Al l.length cl) l from Rep.val_keep (fun b hq hl => ⟨trivial, (HO610.out.block b (Nat.lt_of_lt_of_le hl.lt HB6.out.size) (fun e => e.elim (HQ.out b hq) (fun e => by have h1 := hl.lt; have h2 := HO.out; have h3 := HZ2.out; omega))).trans (HB6.out.block b hl.lt)⟩) HX.out)
  have HSL := Lib.hid (Array.getElem?_eq_some_iff.1 HROW6.out).1
  have HVL := Lib.hid (show ∀ b, v.ownBlock = some b → b < w6.heap.size from fun b hb => (Rep.acc_own HA6.out.acc b hb).2)
  have HAT := Lib.hid (show StoreAt (fun b => (K b ∧ b < W.heap.size) ∨ (b = S ∨ b = A ∨ v.ownBlock = some b) ∨ D2 b) D2 (fun b => b = S ∨ b = A ∨ v.ownBlock = some b) w10 S P (openS log pages ep) (List.replicate pages.toNat 0) from by
    have hz7 := HZ7.out
    have hz8 := HZ8.out
    have hz9 := HZ9.out
    have hsl := HSL.out
    have hz2 := HZ2.out
    have ho := HO.out
    have hd2 : ∀ b, D2 b → b < W.heap.size ∨ w6.heap.size ≤ b := fun b e => (HS10.out b e).imp (HWD.out b) (fun e => by omega)
    refine ⟨A, v4.heap.size, v, none, 0, none, 0, none, 0, HROW10.out, ⟨?_, ⟨Nat.le_refl _, by simp [maxLen], [], rfl, fun h => absurd h (by simp [openS])⟩, ⟨Nat.le_refl _, by simp [maxLen], [], rfl, fun h => absurd h (by simp [openS])⟩⟩, HA10.out, ?_, fun b => Iff.rfl, HSA.out.1, HSA.out.2, ?_, fun b h => .inr h⟩
    · exact rSuper_agg (x := noSuper) (by decide) (by decide) (by decide) (by decide) (by decide) (by decide) (by decide) ⟨Nat.le_refl _, by simp [maxLen], [], rfl, fun h => absurd h (by simp [noSuper])⟩
    · have := HO10.out.size; have := HV4.out; have := HZ6.out; omega
    · rintro b (rfl | rfl | e) hd
      · have := hd2 _ hd; omega
      · have := hd2 _ hd; omega
      · have h1 := hd2 _ hd; have h2 := ho.2.2 b e; have h3 := HVL.out b e; omega)
  have hfin : (List.replicate pages.toNat (0 : Int)).length ≤ 1024 := by rw [List.length_replicate]; have := HPG.out; omega
  have HFN := Lib.hid hfin
  clear hfin
  go_wp2_with fail
  refine (publish_lays (x := openS log pages ep) HD10.out (by have := HN.out; omega) HAT.out ⟨⟨by simp [openS], fun f hf => by cases hf⟩, by simp [openS, noSuper], by simp [openS]⟩ (by simp [openS]) (Nat.le_trans HFN.out (by decide)) (fun j z hz => by
    have e := List.eq_of_mem_replicate (List.mem_of_getElem? hz)
    omega) rfl (.inr rfl) HX10.out HL.out HR.out (by show (placeB 0 && placeB 0 && placeB (0 + 1)) = true; decide) ⟨by simp [openS, noSuper], by simp [openS, noSuper]⟩ HFIT.out (Int.le_trans (fits_need HFIT.out) (by have := HFN.out; omega)) HEP.out HWF.out.1 HWF.out.2).mono ?_
  rintro e w11 ⟨rfl, D3, G3, hd11, hs11, hD3, hG3, ho11⟩
  have HD11 := Lib.hid hd11
  have HS11 := Lib.hid hs11
  have HD3 := Lib.hid hD3
  have HG3 := Lib.hid hG3
  have HO11 := Lib.hid ho11
  clear hd11 hs11 hD3 hG3 ho11
  rw [H4.out]
  go_wp2_with fail
  go_ret2
  have hz2 := HZ2.out
  have hz5 := T5.out.size
  have hz610 := HO610.out.size
  have hz7 := HZ7.out
  have hz8 := HZ8.out
  have hz9 := HZ9.out
  have hz10 := HO10.out.size
  have hb6 := HB6.out.size
  have ho := HO.out
  have hg10 : ∀ b, (b = S ∨ b = A ∨ v.ownBlock = some b) → W.heap.size ≤ b := fun b h => by
    rcases h with rfl | rfl | h
    · omega
    · omega
    · have := ho.2.2 b h; omega
  have hd2 : ∀ b, D2 b → D b ∨ W.heap.size ≤ b := fun b h => (HS10.out b h).imp id (fun e => by omega)
  refine ⟨S, rfl, D3, G3, HD11.out, HS11.out.shrink ?_ (fun b h => .inr h), fun b h => ?_, fun b h => ?_, ?_⟩
  · rintro b (⟨h1, h2⟩ | h)
    · exact .inl ⟨.inl ⟨h1, h2⟩, by omega⟩
    · exact .inr h
  · rcases HD3.out b h with h | h
    · exact hd2 b h
    · exact .inr (by omega)
  · rcases HG3.out b h with h | h
    · exact hg10 b h
    · omega
  · refine Only.andthen (D := D) (Only.andthen (D := D) (Only.of_below HB6.out) HO610.out fun b h => h.imp id (fun e => hg10 b (.inl e))) HO11.out fun b h => ?_
    rcases h with h | h
    · exact .inr (hg10 b h)
    · exact hd2 b h
end Go.Proofs.YtghbfbohnoebiaaGreat
namespace Go.Proofs.YtghbfbohnoebiaaGreat
open Go.RowKit

/-- The power will not fail. -/
def CalmSt (st : DiskSt) : Prop := st.off = false ∧ st.fuse < 0
/-- Two devices that differ in what was counted. -/
structure SameD (a b : DiskSt) : Prop where
  safe : b.safe = a.safe
  wait : b.wait = a.wait
  fuse : b.fuse = a.fuse
  off : b.off = a.off
theorem SameD.refl (a : DiskSt) : SameD a a := ⟨rfl, rfl, rfl, rfl⟩
theorem SameD.trans {a b c : DiskSt} (h : SameD a b) (k : SameD b c) : SameD a c := ⟨k.safe.trans h.safe, k.wait.trans h.wait, k.fuse.trans h.fuse, k.off.trans h.off⟩
theorem SameD.last {a b : DiskSt} (h : SameD a b) (i : Int) : lastSt b i = lastSt a i := by unfold lastSt; rw [h.safe, h.wait]
theorem SameD.calm {a b : DiskSt} (h : SameD a b) (hc : CalmSt a) : CalmSt b := ⟨h.off.trans hc.1, by rw [h.fuse]; exact hc.2⟩
theorem SameD.sec {a b : DiskSt} (h : SameD a b) (hs : SecOk a) : SecOk b := ⟨by rw [h.safe]; exact hs.1, by rw [h.wait]; exact hs.2⟩
theorem SameD.at {a b : DiskSt} (h : SameD a b) {i : Nat} {x : List UInt8} (hs : SafeAt a i x) : SafeAt b i x := hs.same h.safe h.wait
theorem SameD.sound {a b : DiskSt} {n : Nat} (h : SameD a b) (hs : Sound a n) : Sound b n := hs.of_same h.safe h.wait
theorem Sound.secOk {st : DiskSt} {n : Nat} (h : Sound st n) : SecOk st := ⟨fun x hx => by rw [h.sec x hx]; decide, fun j x hx => by rw [h.wt j x hx]; decide⟩
section
variable {st : DiskSt}
theorem burn_calm (h : CalmSt st) : burnSt st = (st, 0) := by
  unfold burnSt
  rw [h.1, if_neg (by decide), if_neg (by have := h.2; omega), if_neg (by have := h.2; omega)]
theorem at_calm (h : CalmSt st) {i : Int} (h0 : 0 ≤ i) (h1 : i < st.safe.length) : atSt st i = (st, 0) := by
  unfold atSt
  rw [if_neg (by omega), burn_calm h]
theorem read_calm (h : CalmSt st) {i : Int} (h0 : 0 ≤ i) (h1 : i < st.safe.length) : (readSt st i).2 = (lastSt st i, 0) ∧ SameD st (readSt st i).1 := by
  unfold readSt
  rw [at_calm h h0 h1]
  exact ⟨rfl, ⟨rfl, rfl, rfl, rfl⟩⟩
theorem write_calm (h : CalmSt st) {i : Int} (b : List UInt8) (h0 : 0 ≤ i) (h1 : i < st.safe.length) : (writeSt st i b).2 = 0 ∧ CalmSt (writeSt st i b).1 := by
  unfold writeSt
  rw [at_calm h h0 h1]
  exact ⟨rfl, h⟩
theorem sync_calm (h : CalmSt st) : (syncRes st).2 = 0 ∧ CalmSt (syncRes st).1 := by
  unfold syncRes
  rw [burn_calm h]
  exact ⟨rfl, h⟩
theorem readAll_calm : ∀ {is : List Int} {st : DiskSt} (_ : CalmSt st), (∀ i ∈ is, 0 ≤ i ∧ i < st.safe.length) → (readAll st is).2 = (is.map (lastSt st), 0) ∧ SameD st (readAll st is).1
  | [], _, _, _ => ⟨rfl, SameD.refl _⟩
  | i :: is, st, h, hi => by
    obtain ⟨h0, h1⟩ := hi i (by simp)
    obtain ⟨r1, r2⟩ := read_calm h h0 h1
    have ih := readAll_calm (is := is) (st := (readSt st i).1) (r2.calm h) (fun j hj => by rw [r2.safe]; exact hi j (by simp [hj]))
    have e : (readSt st i).2.2 = 0 := by rw [r1]
    unfold readAll
    rw [if_pos e]
    refine ⟨?_, r2.trans ih.2⟩
    show (_ :: _, _) = _
    rw [ih.1, r1, List.map_cons]
    congr 2
    exact List.map_congr_left fun j _ => r2.last j
theorem allSt_calm (h : CalmSt st) {is : List Int} (hi : ∀ i ∈ is, 0 ≤ i ∧ i < st.safe.length) : (allSt st is).2 = (is.map (lastSt st), 0) ∧ SameD st (allSt st is).1 := by
  obtain ⟨h1, h2⟩ := readAll_calm h hi
  unfold allSt
  refine ⟨?_, h2⟩
  show ((if (readAll st is).2.2 = 0 then (readAll st is).2.1 else []), (readAll st is).2.2) = _
  rw [h1]; rfl
theorem allTo_calm {f : DiskSt → Nat → DiskSt × List UInt8 × Int} {g : Nat → List UInt8} : ∀ {k : Nat}, (∀ s j, j < k → SameD st s → (f s j).2 = (g j, 0) ∧ SameD s (f s j).1) → (allTo f st k).2 = ((List.range k).map g, 0) ∧ SameD st (allTo f st k).1
  | 0, _ => ⟨rfl, SameD.refl _⟩
  | k + 1, h => by
    obtain ⟨i1, i2⟩ := allTo_calm (k := k) fun s j hj => h s j (by omega)
    obtain ⟨f1, f2⟩ := h _ k (by omega) i2
    rw [allTo_next (by rw [i1]) (by rw [f1])]
    refine ⟨?_, i2.trans f2⟩
    show (_ ++ [_], (0 : Int)) = _
    rw [i1, f1, List.range_succ, List.map_append]; rfl
theorem logOf_range {log pages : Int} (hc : confRight (conf27 log pages) = true) {k : Nat} (hk : (k : Int) < log) : logOf (conf27 log pages) k = 2 + (k : Int) := by
  have hr := conf27_range hc
  have hp : placeB (k : Int) = true := by unfold placeB; rw [Bool.and_eq_true, decide_eq_true_iff, decide_eq_true_iff]; omega
  unfold logOf
  rw [hc, hp]
  show 2 + (k : Int) % log = _
  rw [Int.emod_eq_of_lt (by omega) hk]
/-- What is read of the log, and an epoch above all. -/
theorem top_calm (h : CalmSt st) {log pages : Int} (hc : confRight (conf27 log pages) = true) (hl : 2 + log ≤ st.safe.length) {two : List (List UInt8)} (ht : maxTop (((List.range log.toNat).map fun k : Nat => lastSt st (2 + (k : Int))) ++ two) ≠ maxEpoch) :
    (topS (conf27 log pages) st two).2 = (maxTop (((List.range log.toNat).map fun k : Nat => lastSt st (2 + (k : Int))) ++ two) + 1, 0) ∧ SameD st (topS (conf27 log pages) st two).1 := by
  have hr := conf27_range hc
  have hk := allTo_calm (st := st) (f := topFn (conf27 log pages)) (g := fun k : Nat => lastSt st (2 + (k : Int))) (k := log.toNat) fun s j hj hs => by
    have e : topFn (conf27 log pages) s j = readSt s (2 + (j : Int)) := by unfold topFn; rw [logOf_range hc (by omega)]
    rw [e]
    obtain ⟨r1, r2⟩ := read_calm (hs.calm h) (i := 2 + (j : Int)) (by omega) (by rw [hs.safe]; omega)
    refine ⟨?_, r2⟩
    rw [r1, hs.last]
  have e0 : (allTo (topFn (conf27 log pages)) st (conf27 log pages).log.toNat).2.2 = 0 := by show (allTo _ st log.toNat).2.2 = 0; rw [hk.1]
  have e1 : (allTo (topFn (conf27 log pages)) st (conf27 log pages).log.toNat).2.1 = (List.range log.toNat).map fun k : Nat => lastSt st (2 + (k : Int)) := by show (allTo _ st log.toNat).2.1 = _; rw [hk.1]
  unfold topS
  rw [if_pos e0, e1, if_neg ht]
  exact ⟨rfl, hk.2⟩
theorem write_len (i : Int) (b : List UInt8) : (writeSt st i b).1.safe.length = st.safe.length := by rw [write_safe]
/-- The superblocks are gone. -/
theorem wipe_calm (h : CalmSt st) (hl : 2 ≤ st.safe.length) : (wipeS st).2 = 0 ∧ CalmSt (wipeS st).1 ∧ (wipeS st).1.safe.length = st.safe.length ∧ (∀ j, (wipeS st).1.wait j = []) ∧ (∀ i : Nat, i < 2 → SafeAt (wipeS st).1 i (zeros 512)) ∧ ∀ i : Nat, 2 ≤ i → i < st.safe.length → SafeAt (wipeS st).1 i (lastSt st (i : Nat)) := by
  obtain ⟨a1, a2⟩ := write_calm h (i := 0) [] (Int.le_refl _) (by omega)
  obtain ⟨b1, b2⟩ := write_calm a2 (i := 1) [] (by decide) (by rw [write_len]; omega)
  obtain ⟨c1, c2⟩ := sync_calm b2
  have e : wipeS st = syncRes (writeSt (writeSt st 0 []).1 1 []).1 := by
    have e1 : eachTo (fun s (k : Nat) => writeSt s k []) st 1 = writeSt st 0 [] := rfl
    have e2 : eachTo (fun s (k : Nat) => writeSt s k []) st 2 = writeSt (writeSt st 0 []).1 1 [] := by
      show (if (eachTo _ st 1).2 = 0 then _ else _) = _
      rw [e1, if_pos a1]; rfl
    unfold wipeS
    rw [e2, if_pos b1]
  have hz : cutTo [] 512 = zeros 512 := by unfold cutTo; rw [List.take_nil, List.nil_append]; rfl
  rw [e]
  refine ⟨c1, c2, by rw [syncRes_len, write_len, write_len], sync_none c1, fun i hi => ?_, fun i h2 hi => ?_⟩
  · have hs := sync_safe c1 (i := i) (by rw [write_len, write_len]; omega)
    have hlast : lastSt (writeSt (writeSt st 0 []).1 1 []).1 (i : Nat) = zeros 512 := by
      by_cases hi0 : i = 0
      · subst hi0
        rw [last_other (by decide), ← hz]
        exact write_last a1
      · obtain rfl : i = 1 := by omega
        rw [← hz]
        exact write_last b1
    rw [hlast] at hs
    exact hs
  · have hs := sync_safe c1 (i := i) (by rw [write_len, write_len]; omega)
    rw [last_other (by omega), last_other (by omega)] at hs
    exact hs
theorem wipe_sound {n : Nat} (h : Sound st n) : Sound (wipeS st).1 n := by
  unfold wipeS
  have hk : Sound (eachTo (fun s (k : Nat) => writeSt s k []) st 2).1 n := eachTo_keep (fun s => Sound s n) h _ fun j s _ hs => write_sound hs _ _
  split
  · exact syncRes_sound hk
  · exact hk
theorem turn_calm (h : CalmSt st) {slot : Int} {x : DSuper} (h0 : 0 ≤ 1 - slot) (h1 : 1 - slot < st.safe.length) : (turnS st slot x).2 = 0 ∧ CalmSt (turnS st slot x).1 := by
  obtain ⟨a1, a2⟩ := sync_calm h
  obtain ⟨b1, b2⟩ := write_calm a2 (superBytes x) h0 (by rw [syncRes_len]; exact h1)
  unfold turnS
  rw [if_pos a1, if_pos b1]
  exact sync_calm b2
/-- Pages are written. -/
theorem writeTo_calm (h : CalmSt st) {c : DConf} {epoch : Int} {pages : List Int} {pieces : List (List UInt8)} : ∀ n, (∀ k, k < n → 0 ≤ pageOf c (pages.getD k 0) ∧ pageOf c (pages.getD k 0) < st.safe.length ∧ (pieces.getD k []).length ≤ 472) →
    (eachTo (writeFn c epoch pages pieces) st n).2 = 0 ∧ CalmSt (eachTo (writeFn c epoch pages pieces) st n).1 ∧ (eachTo (writeFn c epoch pages pieces) st n).1.safe.length = st.safe.length
  | 0, _ => ⟨rfl, h, rfl⟩
  | n + 1, hp => by
    obtain ⟨i1, i2, i3⟩ := writeTo_calm h n fun k hk => hp k (by omega)
    obtain ⟨p1, p2, p3⟩ := hp n (by omega)
    have e : eachTo (writeFn c epoch pages pieces) st (n + 1) = writeSt (eachTo (writeFn c epoch pages pieces) st n).1 (pageOf c (pages.getD n 0)) (pageBytes epoch (pages.getD n 0) (pieces.getD n [])) := by
      show (if (eachTo _ st n).2 = 0 then _ else _) = _
      rw [if_pos i1]
      unfold writeFn pageWriteSt
      rw [if_neg (by omega), if_neg (by omega)]
    obtain ⟨w1, w2⟩ := write_calm i2 (pageBytes epoch (pages.getD n 0) (pieces.getD n [])) p1 (by rw [i3]; exact p2)
    rw [e]
    exact ⟨w1, w2, by rw [write_len, i3]⟩
end
end Go.Proofs.YtghbfbohnoebiaaGreat
namespace Go.Proofs.YtghbfbohnoebiaaGreat
open Go.RowKit

def keyLt (a b : DKey) : Prop := min a.kind 2 < min b.kind 2 ∨ (min a.kind 2 = min b.kind 2 ∧ (a.sig < b.sig ∨ (a.sig = b.sig ∧ (a.kind < b.kind ∨ (a.kind = b.kind ∧ a.comp < b.comp)))))
theorem keyLt_iff {a b : DKey} : keyOrder a b < 0 ↔ keyLt a b := by
  unfold keyOrder keyLt cmpI orI
  repeat' split
  all_goals first | omega | (exfalso; omega) | skip
theorem keyLt_trans {a b c : DKey} (h : keyLt a b) (k : keyLt b c) : keyLt a c := by
  unfold keyLt at *
  omega
theorem keyLt_ne {a b : DKey} (h : keyLt a b) : a ≠ b := by
  rintro rfl
  unfold keyLt at h
  omega
theorem rise_step {l : List DStream} (h : riseB l = true) {k : Nat} {s : DStream} (hs : l[k]? = some s) : keyRight s.key = true ∧ ∀ t, 0 < k → l[k - 1]? = some t → keyLt t.key s.key := by
  unfold riseB at h
  rw [List.all_eq_true] at h
  have h1 := h k (List.mem_range.2 (List.getElem?_eq_some_iff.1 hs).1)
  cases k with
  | zero => rw [rise_first hs] at h1; exact ⟨h1, fun t h0 => by omega⟩
  | succ k =>
    obtain ⟨t, ht⟩ : ∃ t, l[k]? = some t := ⟨l[k]'(by have := (List.getElem?_eq_some_iff.1 hs).1; omega), List.getElem?_eq_getElem _⟩
    rw [rise_next ht hs, Bool.and_eq_true, decide_eq_true_iff] at h1
    refine ⟨h1.1, fun t' _ ht' => ?_⟩
    rw [Nat.add_sub_cancel, ht] at ht'
    cases ht'
    exact keyLt_iff.1 h1.2
theorem rise_lt {l : List DStream} (h : riseB l = true) {i : Nat} : ∀ {j : Nat} {s t : DStream}, i < j → l[i]? = some s → l[j]? = some t → keyLt s.key t.key
  | 0, _, _, hij, _, _ => by omega
  | j + 1, s, t, hij, hs, ht => by
    by_cases e : i = j
    · subst e
      exact (rise_step h ht).2 s (by omega) hs
    · obtain ⟨u, hu⟩ : ∃ u, l[j]? = some u := ⟨l[j]'(by have := (List.getElem?_eq_some_iff.1 ht).1; omega), List.getElem?_eq_getElem _⟩
      exact keyLt_trans (rise_lt h (j := j) (by omega) hs hu) ((rise_step h ht).2 u (by omega) hu)
theorem rise_keys {l : List DStream} (h : riseB l = true) : l.Pairwise fun a b => a.key ≠ b.key := by
  rw [List.pairwise_iff_getElem]
  intro i j hi hj hij
  exact keyLt_ne (rise_lt h hij (List.getElem?_eq_getElem hi) (List.getElem?_eq_getElem hj))

/-- All that a store holds. -/
def heldAll (x : StSt) : List Int := reachOf x.flows x.cur ++ x.other
/-- A store's memory is right. -/
structure MemOk (x : StSt) (refs : List Int) : Prop where
  conf : confRight (conf27 x.log x.pages) = true
  slot : x.slot = 0 ∨ x.slot = 1
  refs : refs = countsOf x.pages.toNat (heldAll x)
  page : ∀ p ∈ heldAll x, 0 ≤ p ∧ p < x.pages
  nodup : (reachOf x.flows x.cur).Nodup
  nodupO : x.other.Nodup
  full : ∀ f ∈ x.flows, f.pages.length = pieceCount f ∧ ∀ p ∈ f.pages, 0 ≤ p
  rise : riseB (streamsOf x.flows) = true
  size : FlowsOk x.flows
  dir : x.cur.dir.length ≤ 222
  gen : 0 ≤ x.cur.gen
theorem nodup_range_len {n : Nat} {l : List Int} (h : l.Nodup) (hr : ∀ p ∈ l, 0 ≤ p ∧ p < n) : l.length ≤ n := by
  have h1 : (l.map Int.toNat).Nodup := by
    rw [List.nodup_iff_pairwise_ne, List.pairwise_map]
    refine (List.nodup_iff_pairwise_ne.1 h).imp_of_mem fun {a b} ha hb hab e => hab ?_
    have := hr a ha; have := hr b hb; omega
  have h2 := List.Nodup.length_le_of_subset h1 (l₂ := List.range n) fun x hx => by
    obtain ⟨p, hp, rfl⟩ := List.mem_map.1 hx
    exact List.mem_range.2 (by have := hr p hp; omega)
  simpa using h2
/-- What stays is held. -/
theorem stay_mem {old : List DFlow} {next : List DStream} {p : Int} (hp : p ∈ pagesOf (flowsOf old next)) : p ∈ pagesOf old := by
  obtain ⟨ks, hks, hp⟩ := List.mem_flatten.1 hp
  obtain ⟨f, hf, rfl⟩ := List.mem_map.1 hks
  obtain ⟨s, _, rfl⟩ := List.mem_map.1 hf
  obtain ⟨k, hk, e, h0⟩ := mem_kept.1 hp
  obtain ⟨o, ho, _, q1, _, e1⟩ := flow_page hk (by omega)
  exact List.mem_flatten.2 ⟨kept o, List.mem_map.2 ⟨o, ho, rfl⟩, mem_kept.2 ⟨k, q1, by omega, h0⟩⟩
section
variable {x : StSt} {refs : List Int} {l : List DStream} {head seq : Int}
theorem MemOk.reachN (h : MemOk x refs) : (pagesOf x.flows).Nodup := by
  have := h.nodup
  unfold reachOf at this
  exact (List.nodup_append.1 this).1
theorem pubK_eq (x : StSt) (l : List DStream) : needFlows (flowsOf x.flows l) = (pubK x l : Nat) := by
  have : 0 ≤ needFlows (flowsOf x.flows l) := by unfold needFlows pageCount; split <;> omega
  unfold pubK
  omega
theorem MemOk.free (h : MemOk x refs) (hf : fitsFlows (flowsOf x.flows l) refs = true) : pubK x l ≤ (freePages x.pages.toNat (heldAll x)).length ∧ pageCount ((dirFlows (flowsOf x.flows l)).length : Nat) ≤ 222 := by
  unfold fitsFlows at hf
  rw [Bool.and_eq_true, decide_eq_true_iff, decide_eq_true_iff, h.refs, freeN_counts, pubK_eq] at hf
  exact ⟨by omega, hf.2⟩
theorem MemOk.taken (h : MemOk x refs) (hf : fitsFlows (flowsOf x.flows l) refs = true) : layPages refs (pubK x l) = (freePages x.pages.toNat (heldAll x)).take (pubK x l) := by
  have h1 := (h.free hf).1
  have hstay : ∀ p ∈ pagesOf (flowsOf x.flows l), 0 ≤ p ∧ p < x.pages.toNat := fun p hp => by
    have := h.page p (List.mem_append_left _ (List.mem_append_left _ (stay_mem hp)))
    omega
  rw [h.refs]
  exact (lay_counts h1 hstay).1
/-- The pages that are taken are there, and were free. -/
theorem MemOk.takenIn (h : MemOk x refs) (hf : fitsFlows (flowsOf x.flows l) refs = true) : (∀ p ∈ layPages refs (pubK x l), 0 ≤ p ∧ p < x.pages ∧ p ∉ heldAll x) ∧ (layPages refs (pubK x l)).Nodup := by
  rw [h.taken hf]
  refine ⟨fun p hp => ?_, (freePages_nodup _ _).sublist (List.take_sublist _ _)⟩
  have h1 := mem_freePages.1 (List.mem_of_mem_take hp)
  exact ⟨h1.1, by omega, h1.2.2⟩
theorem MemOk.newReach (h : MemOk x refs) (hf : fitsFlows (flowsOf x.flows l) refs = true) : (reachOf (pubNew x refs l head seq).flows (pubNew x refs l head seq).cur).Perm (pagesOf (flowsOf x.flows l) ++ layPages refs (pubK x l)) :=
  lay_reach (pubK_eq x l) fun p hp => ((h.takenIn hf).1 p hp).1
theorem MemOk.heldRefs (h : MemOk x refs) (hf : fitsFlows (flowsOf x.flows l) refs = true) : pubHeld x refs l = countsOf x.pages.toNat (heldAll x ++ layPages refs (pubK x l) ++ pagesOf (flowsOf x.flows l)) := by
  have h1 := (h.free hf).1
  have hstay : ∀ p ∈ pagesOf (flowsOf x.flows l), 0 ≤ p ∧ p < x.pages.toNat := fun p hp => by
    have := h.page p (List.mem_append_left _ (List.mem_append_left _ (stay_mem hp)))
    omega
  rw [h.taken hf]
  unfold pubHeld
  rw [h.refs]
  exact (lay_counts h1 hstay).2
/-- The counts behind a publishing. -/
theorem MemOk.newRefs (h : MemOk x refs) (hf : fitsFlows (flowsOf x.flows l) refs = true) : (addS (-1) (pubHeld x refs l) x.other).getD (pubHeld x refs l) = countsOf x.pages.toNat (heldAll (pubNew x refs l head seq)) := by
  have hp := h.newReach (head := head) (seq := seq) hf
  rw [h.heldRefs hf, addS_down (l := heldAll (pubNew x refs l head seq)) (fun p hp => by have := h.page p (List.mem_append_right _ hp); omega)]
  · rfl
  · unfold heldAll
    show (reachOf x.flows x.cur ++ x.other ++ layPages refs (pubK x l) ++ pagesOf (flowsOf x.flows l)).Perm (reachOf (pubNew x refs l head seq).flows (pubNew x refs l head seq).cur ++ reachOf x.flows x.cur ++ x.other)
    refine List.Perm.trans ?_ ((hp.symm.append_right _).append_right _)
    rw [List.append_assoc, List.append_assoc, List.append_assoc]
    generalize reachOf x.flows x.cur = A
    generalize x.other = B
    generalize layPages refs (pubK x l) = C
    generalize pagesOf (flowsOf x.flows l) = E
    rw [← List.append_assoc A B]
    refine List.perm_append_comm.trans ?_
    exact (List.perm_append_comm.append_right _)
theorem laid_flows (x : StSt) (refs : List Int) (l : List DStream) (head seq : Int) : (pubNew x refs l head seq).flows = fillOf (flowsOf x.flows l) ((layPages refs (pubK x l)).take (newsOf (flowsOf x.flows l)).length) := rfl
theorem laid_streams (x : StSt) (refs : List Int) (l : List DStream) (head seq : Int) : streamsOf (pubNew x refs l head seq).flows = l := by
  rw [laid_flows]
  apply List.ext_getElem?
  intro j
  unfold streamsOf
  rw [List.getElem?_map]
  cases hj : (fillOf (flowsOf x.flows l) ((layPages refs (pubK x l)).take (newsOf (flowsOf x.flows l)).length))[j]? with
  | none =>
    have := List.getElem?_eq_none_iff.1 hj
    rw [fillOf_len] at this
    unfold flowsOf at this
    rw [List.length_map] at this
    rw [List.getElem?_eq_none this]; rfl
  | some f =>
    obtain ⟨g, hg, rfl⟩ := fillOf_get hj
    unfold flowsOf at hg
    rw [List.getElem?_map] at hg
    obtain ⟨s, hs, rfl⟩ := Option.map_eq_some_iff.1 hg
    rw [hs]; rfl
/-- A publishing that is done leaves a store whose memory is right. -/
theorem MemOk.publish (h : MemOk x refs) (hl : StreamsOk l) (hr : riseB l = true) (hf : fitsFlows (flowsOf x.flows l) refs = true) : MemOk (pubNew x refs l head seq) ((addS (-1) (pubHeld x refs l) x.other).getD (pubHeld x refs l)) := by
  have hp := h.newReach (head := head) (seq := seq) hf
  obtain ⟨t1, t2⟩ := h.takenIn hf
  have hkn : (pagesOf (flowsOf x.flows l)).Nodup := flows_nodup h.reachN (rise_keys hr)
  have hmem : ∀ p ∈ reachOf (pubNew x refs l head seq).flows (pubNew x refs l head seq).cur, 0 ≤ p ∧ p < x.pages := fun p hpm => by
    rcases List.mem_append.1 (hp.mem_iff.1 hpm) with hq | hq
    · exact h.page p (List.mem_append_left _ (List.mem_append_left _ (stay_mem hq)))
    · exact ⟨(t1 p hq).1, (t1 p hq).2.1⟩
  refine ⟨h.conf, ?_, h.newRefs hf, ?_, ?_, h.nodup, ?_, ?_, ?_, ?_, ?_⟩
  · show 1 - x.slot = 0 ∨ 1 - x.slot = 1
    rcases h.slot with e | e <;> rw [e] <;> simp
  · intro p hpm
    rcases List.mem_append.1 hpm with hq | hq
    · exact hmem p hq
    · exact h.page p (List.mem_append_left _ hq)
  · refine hp.nodup_iff.2 (List.nodup_append.2 ⟨hkn, t2, fun a ha b hb e => ?_⟩)
    subst e
    exact (t1 a hb).2.2 (List.mem_append_left _ (List.mem_append_left _ (stay_mem ha)))
  · intro f hfm
    rw [laid_flows] at hfm
    obtain ⟨j, hj, rfl⟩ := List.getElem_of_mem hfm
    obtain ⟨g, hg, e⟩ := fillOf_get (List.getElem?_eq_getElem hj)
    rw [e]
    refine ⟨fillFlow_len _ _ _ _, fun p hpm => ?_⟩
    obtain ⟨i, _, rfl⟩ := List.mem_map.1 hpm
    exact fillAt_nonneg (fun p hp2 => (t1 p (List.mem_of_mem_take hp2)).1) _ _
  · rw [laid_streams]; exact hr
  · exact fillOf_ok (flowsOf_ok hl)
  · show ((layPages refs (pubK x l)).drop (newsOf (flowsOf x.flows l)).length).length ≤ 222
    rw [List.length_drop, layPages_len]
    have h1 := (h.free hf).2
    have h2 := pubK_eq x l
    unfold needFlows at h2
    omega
  · show 0 ≤ x.cur.gen + 1
    have := h.gen
    omega
end
/-- A blank store's memory is right. -/
theorem mem_blank {log pages ep : Int} (hc : confRight (conf27 log pages) = true) : MemOk (openS log pages ep) (List.replicate pages.toNat 0) :=
  ⟨hc, .inr rfl, (countsOf_nil _).symm, fun p hp => (by cases hp), List.nodup_nil, List.nodup_nil, fun f hf => (by cases hf), rfl, ⟨Nat.zero_le _, fun f hf => (by cases hf)⟩, Nat.zero_le _, Int.le_refl _⟩
/-- The pieces that are written. -/
theorem piece_len472 (l : List UInt8) (i : Nat) : (piece l i).length ≤ 472 := by unfold piece; rw [List.length_take]; omega
theorem pieces_len {x : StSt} {refs : List Int} {l : List DStream} : (layPieces (flowsOf x.flows l) (layPages refs (pubK x l))).length = pubK x l ∧ ∀ b ∈ layPieces (flowsOf x.flows l) (layPages refs (pubK x l)), b.length ≤ 472 := by
  have h2 := pubK_eq x l
  constructor
  · unfold layPieces layFlows
    rw [List.length_append, cut_length, fillOf_dir flowsOf_pages]
    unfold needFlows pageCount at h2
    split at h2 <;> omega
  · intro b hb
    unfold layPieces at hb
    rcases List.mem_append.1 hb with hb | hb
    · unfold newsOf at hb
      obtain ⟨ls, hls, hb⟩ := List.mem_flatten.1 hb
      obtain ⟨f, _, rfl⟩ := List.mem_map.1 hls
      unfold newsTo at hb
      obtain ⟨i, _, e⟩ := List.mem_filterMap.1 hb
      split at e
      · rw [← Option.some.inj e]; exact piece_len472 _ _
      · cases e
    · unfold cut pieces at hb
      obtain ⟨i, _, rfl⟩ := List.mem_map.1 hb
      exact piece_len472 _ _
theorem pageOf_in {log pages p : Int} (hc : confRight (conf27 log pages) = true) (h : 0 ≤ p ∧ p < pages) : pageOf (conf27 log pages) p = 2 + log + p := by
  unfold pageOf
  rw [if_pos ⟨hc, h.1, h.2⟩]; rfl
/-- While the power does not fail, a publishing is done. -/
theorem pub_calm {x : StSt} {refs : List Int} {l : List DStream} {head seq : Int} {st : DiskSt} (h : MemOk x refs) (hs : CalmSt st) (hlen : (st.safe.length : Int) = 2 + x.log + x.pages) (hf : fitsFlows (flowsOf x.flows l) refs = true) :
    (pubTurn x refs st l head seq).2 = 0 ∧ CalmSt (pubTurn x refs st l head seq).1 := by
  obtain ⟨t1, _⟩ := h.takenIn hf
  have hr := conf27_range h.conf
  obtain ⟨p1, p2⟩ := pieces_len (x := x) (refs := refs) (l := l)
  have hw := writeTo_calm hs (c := conf27 x.log x.pages) (epoch := x.epoch) (pages := layPages refs (pubK x l)) (pieces := layPieces (flowsOf x.flows l) (layPages refs (pubK x l))) (layPieces (flowsOf x.flows l) (layPages refs (pubK x l))).length fun k hk => by
    have hk2 : k < (layPages refs (pubK x l)).length := by rw [layPages_len, ← p1]; exact hk
    have e : (layPages refs (pubK x l)).getD k 0 = (layPages refs (pubK x l))[k] := by rw [List.getD_eq_getElem?_getD, List.getElem?_eq_getElem hk2]; rfl
    have ht := t1 _ (List.getElem_mem hk2)
    have e2 : (layPieces (flowsOf x.flows l) (layPages refs (pubK x l))).getD k [] = (layPieces (flowsOf x.flows l) (layPages refs (pubK x l)))[k] := by rw [List.getD_eq_getElem?_getD, List.getElem?_eq_getElem hk]; rfl
    rw [e, e2, pageOf_in h.conf ⟨ht.1, ht.2.1⟩]
    exact ⟨by omega, by omega, p2 _ (List.getElem_mem hk)⟩
  have e : pubWrite x refs st l = eachTo (writeFn (conf27 x.log x.pages) x.epoch (layPages refs (pubK x l)) (layPieces (flowsOf x.flows l) (layPages refs (pubK x l)))) st (layPieces (flowsOf x.flows l) (layPages refs (pubK x l))).length := rfl
  unfold pubTurn
  rw [e, if_pos hw.1]
  have hsl := h.slot
  exact turn_calm hw.2.1 (by omega) (by rw [hw.2.2]; omega)
end Go.Proofs.YtghbfbohnoebiaaGreat
namespace Go.Proofs.YtghbfbohnoebiaaGreat
open Go.RowKit

/-- disk.New, the device told by its blocks. -/
theorem devd_new {n : Int} (h0 : 0 ≤ n) (h1 : n ≤ 4096) (w : World) : Calls Tryz.prog 11 #[.int .i64 n] w fun e W => ∃ (P : Nat) (D : Nat → Prop), e = .returned (.pointer (some ⟨P, 0, none⟩)) ∧ DevD D W P 0 (newSt (List.replicate (newN n) (zeros 512))) ∧ (∀ b, D b → w.heap.size ≤ b) ∧ Below w.heap.size w W := by
  refine (dev_new h0 h1 w).mono ?_
  rintro e W ⟨P, rfl, ⟨_, F, B, hd, hk⟩, hb⟩
  refine ⟨P, fun b => F b ∨ B b, rfl, ⟨?_, F, B, hd, fun b h => h⟩, fun b h => Nat.le_of_not_lt (hk b h), hb⟩
  obtain ⟨_, _, _, _, hh⟩ := hd
  exact hh.lt
/-- All sectors are 0, and nothing waits. -/
structure BlankD (st : DiskSt) (n : Nat) : Prop where
  calm : CalmSt st
  sound : Sound st n
  none : ∀ j, st.wait j = []
  zero : ∀ i : Nat, i < n → SafeAt st i (zeros 512)
theorem zeros_len (n : Nat) : (zeros n).length = n := by unfold zeros; simp
theorem blank_new (n : Nat) : BlankD (newSt (List.replicate n (zeros 512))) n :=
  ⟨⟨rfl, show (-1 : Int) < 0 by decide⟩, ⟨by simp [newSt], fun x hx => by rw [List.eq_of_mem_replicate hx]; exact zeros_len _, fun i x hx => (by cases hx), fun i hi => absurd rfl hi⟩, fun _ => rfl,
    fun i hi => ⟨rfl, by show (List.replicate n (zeros 512))[i]? = _; rw [List.getElem?_replicate, if_pos hi]⟩⟩
theorem topOf_zeros : topOf (zeros 512) = 0 := by decide +kernel
theorem maxTop_zero : ∀ {l : List (List UInt8)}, (∀ b ∈ l, topOf b = 0) → maxTop l = 0 := by
  intro l
  unfold maxTop
  suffices h : ∀ (l : List (List UInt8)) (n : Int), 0 ≤ n → (∀ b ∈ l, topOf b = 0) → l.foldl (fun n b => if n < topOf b then topOf b else n) n = n from h l 0 (Int.le_refl _)
  intro l
  induction l with
  | nil => intro n _ _; rfl
  | cons b l ih =>
    intro n hn h
    rw [List.foldl_cons, h b (by simp), if_neg (by omega)]
    exact ih n hn fun b hb => h b (by simp [hb])
/-- What Format does to a new device ahead of the first snapshot. -/
theorem format_ahead {log pages : Int} {st : DiskSt} (hc : confRight (conf27 log pages) = true) (h : BlankD st (2 + log + pages).toNat) :
    ∃ st1 two st2 st3, allSt st [0, 1] = (st1, two, 0) ∧ topS (conf27 log pages) st1 two = (st2, 1, 0) ∧ wipeS st2 = (st3, 0) ∧ two.length = 2 ∧ SecOk st1 ∧ BlankD st3 (2 + log + pages).toNat := by
  have hr := conf27_range hc
  have hlen := h.sound.len
  obtain ⟨a1, a2⟩ := allSt_calm h.calm (is := [0, 1]) (by intro i hi; simp at hi; rw [hlen]; omega)
  have hz : ∀ {s : DiskSt}, SameD st s → ∀ i : Nat, i < (2 + log + pages).toNat → lastSt s (i : Int) = zeros 512 := fun hs i hi => (hs.at (h.zero i hi)).last
  have htop : maxTop (((List.range log.toNat).map fun k : Nat => lastSt (allSt st [0, 1]).1 (2 + (k : Int))) ++ [lastSt st 0, lastSt st 1]) = 0 := by
    refine maxTop_zero fun b hb => ?_
    rcases List.mem_append.1 hb with hb | hb
    · obtain ⟨k, hk, rfl⟩ := List.mem_map.1 hb
      have := List.mem_range.1 hk
      have e := hz a2 (2 + k) (by omega)
      rw [show ((2 + k : Nat) : Int) = 2 + (k : Int) by omega] at e
      rw [e]; exact topOf_zeros
    · simp only [List.mem_cons, List.not_mem_nil, or_false] at hb
      rcases hb with rfl | rfl
      · rw [show lastSt st 0 = zeros 512 from hz (SameD.refl _) 0 (by omega)]; exact topOf_zeros
      · rw [show lastSt st 1 = zeros 512 from hz (SameD.refl _) 1 (by omega)]; exact topOf_zeros
  obtain ⟨b1, b2⟩ := top_calm (a2.calm h.calm) hc (by rw [a2.safe, hlen]; omega) (two := [lastSt st 0, lastSt st 1]) (by rw [htop]; decide)
  rw [htop] at b1
  obtain ⟨c1, c2, c3, c4, c5, c6⟩ := wipe_calm (b2.calm (a2.calm h.calm)) (by rw [b2.safe, a2.safe, hlen]; omega)
  refine ⟨(allSt st [0, 1]).1, [lastSt st 0, lastSt st 1], (topS (conf27 log pages) (allSt st [0, 1]).1 [lastSt st 0, lastSt st 1]).1, (wipeS (topS (conf27 log pages) (allSt st [0, 1]).1 [lastSt st 0, lastSt st 1]).1).1, ?_, ?_, ?_, rfl, ?_, ?_⟩
  · exact Prod.ext rfl a1
  · exact Prod.ext rfl (by rw [b1]; rfl)
  · exact Prod.ext rfl c1
  · exact (a2.sound h.sound).secOk
  · refine ⟨c2, wipe_sound (b2.sound (a2.sound h.sound)), c4, fun i hi => ?_⟩
    by_cases h2 : i < 2
    · exact c5 i h2
    · have e := c6 i (by omega) (by rw [b2.safe, a2.safe, hlen]; exact hi)
      rw [hz (a2.trans b2) i hi] at e
      exact e
/-- Format of a new device, where there is room. -/
theorem format_new {K D Q' : Nat → Prop} {W : World} {P n : Nat} {st : DiskSt} {log pages : Int} {vl : Value} {l : List DStream} (hD : DevD D W P n st) (hn : n ≤ 600000000) (hQ : ∀ b, Q' b → ¬ D b) (hc : confRight (conf27 log pages) = true) (hb : BlankD st (2 + log + pages).toNat)
    (hx : rStream.list.val Q' W vl l) (hl : StreamsOk l) (hr : riseB l = true) (hfit : fitsFlows (flowsOf [] l) (List.replicate pages.toNat 0) = true) :
    ∃ st3, BlankD st3 (2 + log + pages).toNat ∧ (pubS (openS log pages 1) (List.replicate pages.toNat 0) st3 l 0 0).2.2.2 = 0 ∧
      Calls Tryz.prog 12 #[.pointer (some ⟨P, 0, none⟩), .int .i64 log, .int .i64 pages, vl] W (FormatPost K D W P (n + 2 + pubK (openS log pages 1) l + 1) (pubS (openS log pages 1) (List.replicate pages.toNat 0) st3 l 0 0)) := by
  have hrg := conf27_range hc
  obtain ⟨st1, two, st2, st3, h1, h2, h3, ht, hok1, hb3⟩ := format_ahead hc hb
  have hsz : (st.safe.length : Int) = 2 + log + pages := by rw [hb.sound.len]; omega
  have hp := pub_calm (st := st3) (head := 0) (seq := 0) (mem_blank (ep := 1) hc) hb3.calm (by show (st3.safe.length : Int) = 2 + log + pages; rw [hb3.sound.len]; omega) hfit
  have h4 : (pubS (openS log pages 1) (List.replicate pages.toNat 0) st3 l 0 0).2.2.2 = 0 := by
    unfold pubS
    rw [if_pos hp.1]
  exact ⟨st3, hb3, h4, format_lays hD hn hQ hb.sound.secOk hok1 hc hsz hx hl hr hfit h1 h2 h3 (by decide) (by rw [ht]; decide) h4⟩
end Go.Proofs.YtghbfbohnoebiaaGreat
namespace Go.Proofs.YtghbfbohnoebiaaGreat
open Go.RowKit

theorem strict_unique : ∀ {a b : List Int}, a.Pairwise (· < ·) → b.Pairwise (· < ·) → (∀ x, x ∈ a ↔ x ∈ b) → a = b
  | [], [], _, _, _ => rfl
  | [], y :: b, _, _, h => by have := (h y).2 (by simp); cases this
  | x :: a, [], _, _, h => by have := (h x).1 (by simp); cases this
  | x :: a, y :: b, ha, hb, h => by
    obtain ⟨a1, a2⟩ := List.pairwise_cons.1 ha
    obtain ⟨b1, b2⟩ := List.pairwise_cons.1 hb
    have hxy : x = y := by
      rcases List.mem_cons.1 ((h x).1 (by simp)) with e | e
      · exact e
      · rcases List.mem_cons.1 ((h y).2 (by simp)) with e2 | e2
        · exact e2.symm
        · have := a1 y e2; have := b1 x e; omega
    subst hxy
    congr 1
    refine strict_unique a2 b2 fun z => ⟨fun hz => ?_, fun hz => ?_⟩
    · rcases List.mem_cons.1 ((h z).1 (by simp [hz])) with e | e
      · have := a1 z hz; omega
      · exact e
    · rcases List.mem_cons.1 ((h z).2 (by simp [hz])) with e | e
      · have := b1 z hz; omega
      · exact e
theorem bang_get {s : List Int} {j : Nat} (h : j < s.length) : s.toArray[j]! = s[j] := by simp [h]
theorem compact_strict {s : List Int} (hs : s.Pairwise (· ≤ ·)) : (Lib.compact s).Pairwise (· < ·) := by
  have hle : ∀ {i j : Nat} (hi : i ≤ j) (hj : j < s.length), s[i]'(by omega) ≤ s[j] := fun {i j} hi hj => by
    by_cases e : i = j
    · subst e; exact Int.le_refl _
    · exact List.pairwise_iff_getElem.1 hs i j (by omega) hj (by omega)
  unfold Lib.compact Lib.compactUpTo
  rw [List.pairwise_map]
  refine List.Pairwise.imp_of_mem (R := fun a b : Nat => a < b) (fun {a b} ha hb hab => ?_) ((List.pairwise_lt_range (n := s.length)).filter _)
  obtain ⟨ha1, _⟩ := List.mem_filter.1 ha
  obtain ⟨hb1, hb2⟩ := List.mem_filter.1 hb
  have la := List.mem_range.1 ha1
  have lb := List.mem_range.1 hb1
  rw [bang_get la, bang_get lb]
  unfold Lib.keeps at hb2
  rw [bang_get lb, bang_get (show b - 1 < s.length by omega)] at hb2
  have h1 := hle (show a ≤ b - 1 by omega) (by omega)
  have h2 := hle (show b - 1 ≤ b by omega) lb
  have h3 : s[b] ≠ s[b - 1] := by
    have hb0 : b ≠ 0 := by omega
    simpa [hb0] using hb2
  omega
theorem compact_same {s : List Int} {x : Int} : x ∈ Lib.compact s ↔ x ∈ s := by
  refine ⟨compact_mem, fun h => ?_⟩
  obtain ⟨j, hj, e⟩ := List.getElem_of_mem h
  have key : ∀ (j : Nat) (hj : j < s.length), s[j] ∈ Lib.compact s := by
    intro j
    induction j with
    | zero =>
      intro hj
      unfold Lib.compact Lib.compactUpTo
      exact List.mem_map.2 ⟨0, List.mem_filter.2 ⟨List.mem_range.2 hj, by simp [Lib.keeps]⟩, bang_get hj⟩
    | succ j ih =>
      intro hj
      by_cases e : s[j + 1] = s[j]
      · rw [e]; exact ih (by omega)
      · unfold Lib.compact Lib.compactUpTo
        refine List.mem_map.2 ⟨j + 1, List.mem_filter.2 ⟨List.mem_range.2 hj, ?_⟩, bang_get hj⟩
        unfold Lib.keeps
        rw [bang_get hj, bang_get (show j + 1 - 1 < s.length by omega)]
        simpa using e
  rw [← e]
  exact key j hj
/-- Held pages, as0 they stand in the document. -/
def heldList (x : StSt) : List Int := ((List.range x.pages.toNat).filter fun p : Nat => decide ((p : Int) ∈ heldAll x)).map fun p : Nat => (p : Int)
theorem heldList_mem {x : StSt} {p : Int} : p ∈ heldList x ↔ 0 ≤ p ∧ p < x.pages.toNat ∧ p ∈ heldAll x := by
  unfold heldList
  rw [List.mem_map]
  constructor
  · rintro ⟨q, hq, rfl⟩
    have h := List.mem_filter.1 hq
    have := List.mem_range.1 h.1
    exact ⟨by omega, by omega, by simpa using h.2⟩
  · rintro ⟨h1, h2, h3⟩
    refine ⟨p.toNat, List.mem_filter.2 ⟨List.mem_range.2 (by omega), ?_⟩, by omega⟩
    have e : ((p.toNat : Nat) : Int) = p := by omega
    rw [e]; simpa using h3
theorem heldOf_list {x : StSt} (h : ∀ p ∈ heldAll x, 0 ≤ p ∧ p < x.pages) : heldOf x = heldList x := by
  refine strict_unique (compact_strict (sortedOf_sorted _)) ?_ fun p => ?_
  · unfold heldList
    refine List.Pairwise.map _ (fun a b (h : a < b) => by omega) ?_
    exact (List.pairwise_lt_range (n := x.pages.toNat)).filter _
  · rw [heldList_mem]
    show p ∈ Lib.compact (sortedOf (heldAll x)) ↔ _
    rw [compact_same, (sortedOf_perm _).mem_iff]
    refine ⟨fun hp => ?_, fun hp => hp.2.2⟩
    have := h p hp
    exact ⟨this.1, by omega, hp⟩
/-- Held and free pages are all. -/
theorem held_free_len (x : StSt) : (heldList x).length + (freePages x.pages.toNat (heldAll x)).length = x.pages.toNat := by
  unfold heldList freePages
  rw [List.length_map, List.length_map]
  have h := List.length_eq_countP_add_countP (fun p : Nat => decide ((p : Int) ∈ heldAll x)) (l := List.range x.pages.toNat)
  rw [List.countP_eq_length_filter, List.countP_eq_length_filter, List.length_range] at h
  have e : (List.range x.pages.toNat).filter (fun p : Nat => decide ((p : Int) ∉ heldAll x)) = (List.range x.pages.toNat).filter (fun p : Nat => decide (¬ (decide ((p : Int) ∈ heldAll x) = true))) := List.filter_congr fun p _ => by simp
  rw [e]
  omega
end Go.Proofs.YtghbfbohnoebiaaGreat
namespace Go.Proofs.YtghbfbohnoebiaaGreat
open Go.RowKit Go.Shelf
attribute [local go_sem] Oper.semAt_some

set_option maxRecDepth 100000 in
/-- law27.code -/
theorem code27 (k : Int) (w : World) : Calls Tryz.prog 13 #[.int .i64 k] w fun e w' => e = .returned (.int .i64 k) ∧ w' = w := by
  go_enter Tryz.func13, Tryz.ntmps13
  go_wp2_with fail
  go_ret
  exact ⟨rfl, rfl⟩
/-- Held, Free of a store in memory. -/
theorem held_at {K D G : Nat → Prop} {W : World} {S P : Nat} {x : StSt} {refs : List Int} (h : StoreAt K D G W S P x refs) (hok : StoreOk x) : Calls Tryz.prog 18 #[.pointer (some ⟨S, 0, none⟩)] W (ResA (Rep.int .i64) 3 W (heldOf x)) := by
  obtain ⟨A, base, v, Ad, cd, Af, cf, Ao, co, hrow, hv, _⟩ := h
  exact sheld_calls hrow hv hok
theorem free_at {K D G : Nat → Prop} {W : World} {S P : Nat} {x : StSt} {refs : List Int} (h : StoreAt K D G W S P x refs) (hok : StoreOk x) (hp : 0 ≤ x.pages ∧ x.pages ≤ 100000) : Calls Tryz.prog 19 #[.pointer (some ⟨S, 0, none⟩)] W fun e W' => e = .returned (.int .i64 (x.pages - (heldOf x).length)) ∧ Below W.heap.size W W' := by
  obtain ⟨A, base, v, Ad, cd, Af, cf, Ao, co, hrow, hv, _⟩ := h
  exact sfree_calls hrow hv hok hp
theorem StoreAt.below {K D G : Nat → Prop} {W W' : World} {S P : Nat} {x : StSt} {refs : List Int} (h : StoreAt K D G W S P x refs) (hb : Below W.heap.size W W') : StoreAt K D G W' S P x refs := by
  obtain ⟨A, base, v, Ad, cd, Af, cf, Ao, co, hrow, hv, ha, hbase, hG, hSA, hvS, hGD, hK⟩ := h
  exact ⟨A, base, v, Ad, cd, Af, cf, Ao, co, row_call hb hrow, hv.keep fun b hq hl => ⟨hq, hb.block b hl.lt⟩, ha.call hb, Nat.le_trans hbase hb.size, hG, hSA, hvS, hGD, hK⟩
theorem MemOk.ok {x : StSt} {refs : List Int} (h : MemOk x refs) : StoreOk x :=
  ⟨h.size, Nat.le_trans h.dir (by decide), by
    have hr := conf27_range h.conf
    have := nodup_range_len (n := x.pages.toNat) h.nodupO fun p hp => by
      have := h.page p (List.mem_append_right _ hp)
      omega
    omega⟩
theorem MemOk.heldLen {x : StSt} {refs : List Int} (h : MemOk x refs) : heldOf x = heldList x := heldOf_list h.page
theorem pubS_done {x : StSt} {refs : List Int} {st : DiskSt} {l : List DStream} {head seq : Int} (h : (pubS x refs st l head seq).2.2.2 = 0) : (pubS x refs st l head seq).1 = pubNew x refs l head seq := by
  unfold pubS at h ⊢
  split
  · rfl
  · rename_i hc
    rw [if_neg hc] at h
    exact absurd h hc
def live27L : List DStream := [⟨⟨0, 0, 0⟩, [1, 2, 3]⟩]
theorem live27_fits : fitsFlows (flowsOf [] live27L) (List.replicate 8 0) = true := by decide +kernel
theorem live27_need : pubK (openS 4 8 1) live27L = 2 := by decide +kernel
theorem live27_stay : pagesOf (flowsOf [] live27L) = [] := by decide +kernel
theorem live27_held (head seq : Int) : (heldList (pubNew (openS 4 8 1) (List.replicate 8 0) live27L head seq)).length = 2 := by
  have hm : MemOk (openS 4 8 1) (List.replicate 8 0) := mem_blank (by decide +kernel)
  have hp := hm.newReach (head := head) (seq := seq) (l := live27L) live27_fits
  have ht := (hm.takenIn (l := live27L) live27_fits)
  have hf := held_free_len (pubNew (openS 4 8 1) (List.replicate 8 0) live27L head seq)
  have e : (heldList (pubNew (openS 4 8 1) (List.replicate 8 0) live27L head seq)).Perm (layPages (List.replicate 8 0) (pubK (openS 4 8 1) live27L)) := by
    refine (List.perm_ext_iff_of_nodup ?_ ht.2).2 fun p => ?_
    · unfold heldList
      refine List.Pairwise.map _ (fun a b (h : a ≠ b) => by omega) ?_
      exact List.nodup_range.filter _
    · rw [heldList_mem]
      have h1 : p ∈ heldAll (pubNew (openS 4 8 1) (List.replicate 8 0) live27L head seq) ↔ p ∈ layPages (List.replicate 8 0) (pubK (openS 4 8 1) live27L) := by
        unfold heldAll
        rw [List.mem_append, hp.mem_iff, show (openS 4 8 1).flows = [] from rfl, live27_stay]
        show (p ∈ [] ++ _ ∨ p ∈ ([] : List Int)) ↔ _
        simp
      rw [h1]
      refine ⟨fun h => h.2.2, fun h => ?_⟩
      have h2 := ht.1 p h
      have e8 : (pubNew (openS 4 8 1) (List.replicate 8 0) live27L head seq).pages = 8 := rfl
      have e9 : (openS 4 8 1).pages = 8 := rfl
      rw [e9] at h2
      rw [e8]
      exact ⟨h2.1, by omega, h⟩
  rw [e.length_eq, layPages_len, live27_need]

set_option maxRecDepth 100000 in
set_option maxHeartbeats 2000000 in
/-- law27.live -/
theorem live27_calls (w : World) : Calls Tryz.prog 7 #[] w fun e w' => e = .returned (.bool true) ∧ Below w.heap.size w w' := by
  have HMEM := Lib.hid (show MemOk (openS 4 8 1) (List.replicate 8 0) from mem_blank (by decide +kernel))
  go_enter Tryz.func7, Tryz.ntmps7
  go_wp2_with fail
  refine (devd_new (n := 14) (by decide) (by decide) w).mono ?_
  rintro e w1 ⟨P, D, rfl, hd, hD, hb⟩
  rw [show newN 14 = 14 from by decide] at hd
  obtain ⟨w2, hw2⟩ : ∃ w2, w1.alloc (.cells #[.int .u8 1, .int .u8 2, .int .u8 3] 5) = w2 := ⟨_, rfl⟩
  obtain ⟨w3, hw3⟩ : ∃ w3, w2.alloc (.cells #[.int .i64 0, .int .u64 0, .int .i64 0, .slice (some ⟨w1.heap.size, 0, none⟩) 3 3] 84) = w3 := ⟨_, rfl⟩
  have hz2 : w2.heap.size = w1.heap.size + 1 := by rw [← hw2]; simp
  have hz3 : w3.heap.size = w1.heap.size + 2 := by rw [← hw3]; simp [hz2]
  have hb12 : Below w1.heap.size w1 w2 := by rw [← hw2]; exact (Below.refl _ _).alloc (Nat.le_refl _) _
  have hb23 : Below w2.heap.size w2 w3 := by rw [← hw3]; exact (Below.refl _ _).alloc (Nat.le_refl _) _
  have hb13 : Below w1.heap.size w1 w3 := hb12.trans (hb23.mono (by omega))
  have hr2 : w3.heap[w1.heap.size]? = some (.cells #[.int .u8 1, .int .u8 2, .int .u8 3] 5 (0, 0)) := (hb23.block _ (by omega)).trans (by rw [← hw2]; exact heap_alloc_new _ _)
  have hr3 : w3.heap[w1.heap.size + 1]? = some (.cells #[.int .i64 0, .int .u64 0, .int .i64 0, .slice (some ⟨w1.heap.size, 0, none⟩) 3 3] 84 (0, 0)) := by rw [← hw3, ← hz2]; exact heap_alloc_new _ _
  have HXS := Lib.hid (show rStream.list.val (fun b => w1.heap.size ≤ b) w3 (.slice (some ⟨w2.heap.size, 0, none⟩) 1 1) live27L from by
    rw [hz2]
    have hby : Rep.byte.list.val (fun b => w1.heap.size ≤ b) w3 (.slice (some ⟨w1.heap.size, 0, none⟩) 3 3) [1, 2, 3] := by
      refine Rep.list_val (by simp) (Nat.le_refl _) (by simp [maxLen]) ⟨_, Rep.byte_row _, fun _ => ⟨w1.heap.size, 0, rfl, Nat.le_refl _, ⟨_, _, _, hr2⟩, fun j u hj => ?_⟩⟩
      rw [cell_of_row _ _ _ _ _ _ hr2, Nat.zero_add, ← hj, ← Array.getElem?_toList]
      rfl
    have hrd := rStream_mk (Q := fun b => w1.heap.size ≤ b) (w := w3) (x := ⟨⟨0, 0, 0⟩, [1, 2, 3]⟩) (by decide) (by decide) (by decide) (sl_of hby)
    refine Rep.list_val (by simp [live27L]) (Nat.le_refl _) (by simp [maxLen]) ⟨_, Rep.row_one_elem hrd, fun _ => ⟨w1.heap.size + 1, 0, rfl, Nat.le_succ _, ⟨_, _, _, hr3⟩, fun j u hj => ?_⟩⟩
    rw [cell_of_row _ _ _ _ _ _ hr3, Nat.zero_add, ← hj, ← Array.getElem?_toList]
    rfl)
  have HD := Lib.hid (hd.below hb13)
  have HBL := Lib.hid (show BlankD (newSt (List.replicate 14 (zeros 512))) ((2 : Int) + 4 + 8).toNat from by rw [show ((2 : Int) + 4 + 8).toNat = 14 from rfl]; exact blank_new 14)
  have HB3 := Lib.hid (show Below w.heap.size w w3 from hb.trans (hb13.mono hb.size))
  have HDL := Lib.hid hd.1
  have HDG := Lib.hid hD
  have HZ := Lib.hid (show w1.heap.size ≤ w3.heap.size by omega)
  have HZ1 := Lib.hid hb.size
  obtain ⟨st3, hbl, h40, HF⟩ := format_new (K := D) HD.out (by decide) (fun b hb e => by have := HDL.out b e; omega) (log := 4) (pages := 8) (by decide +kernel) HBL.out HXS.out ⟨by simp [live27L], by simp [live27L]⟩ (by decide +kernel) live27_fits
  rw [show (8 : Int).toNat = 8 from rfl] at h40 HF
  have hr1 : (pubS (openS 4 8 1) (List.replicate 8 0) st3 live27L 0 0).1 = pubNew (openS 4 8 1) (List.replicate 8 0) live27L 0 0 := pubS_done h40
  obtain ⟨r, hr⟩ : ∃ r, pubS (openS 4 8 1) (List.replicate 8 0) st3 live27L 0 0 = r := ⟨_, rfl⟩
  rw [hr] at HF hr1
  have HFF := Lib.hid HF
  have HE0 := Lib.hid hr1
  clear hd hD hb hz2 hz3 hb12 hb23 hb13 hr2 hr3 hbl h40 HF hr hr1
  go_wp2_with fail
  try rw [hw2]
  try rw [hw3]
  try go_wp2_with fail
  clear hw2 hw3
  refine HFF.out.mono ?_
  rintro e w4 ⟨S, rfl, D', G', hd4, hs4, hD4, hG4, ho4⟩
  rw [HE0.out] at hs4
  have HM := Lib.hid (HMEM.out.publish (head := 0) (seq := 0) (l := live27L) ⟨by simp [live27L], by simp [live27L]⟩ (by decide +kernel) live27_fits)
  have HL := Lib.hid (live27_held 0 0)
  have HPG := Lib.hid (show (pubNew (openS 4 8 1) (List.replicate 8 0) live27L 0 0).pages = 8 from rfl)
  have HS := Lib.hid hs4
  have HB4 := Lib.hid (show Below w.heap.size w w4 from HB3.out.trans (ho4.below HB3.out.size fun b hb => Nat.le_trans (Nat.le_refl _) (HDG.out b hb)))
  obtain ⟨x, hx⟩ : ∃ x, pubNew (openS 4 8 1) (List.replicate 8 0) live27L 0 0 = x := ⟨_, rfl⟩
  rw [hx] at HM HL HPG HS
  have HLN := Lib.hid (show (heldOf x).length = 2 from by rw [HM.out.heldLen]; exact HL.out)
  clear hd4 hs4 hD4 hG4 ho4 hx
  go_wp2_with fail
  refine (code27 _ _).mono ?_
  rintro e w5 ⟨rfl, hw⟩
  obtain rfl := hw.symm
  clear hw
  go_wp2_with fail
  refine (held_at HS.out HM.out.ok).mono ?_
  rintro e w5 ⟨u, rfl, hacc, hb5⟩
  obtain ⟨A5, c5, rfl, _, _⟩ := Rep.acc_form hacc
  rw [HLN.out]
  have HB5 := Lib.hid hb5
  have HS5 := Lib.hid (HS.out.below hb5)
  clear hacc hb5
  go_wp2_with fail
  refine (free_at HS5.out HM.out.ok (by rw [HPG.out]; decide)).mono ?_
  rintro e w6 ⟨rfl, hb6⟩
  rw [HPG.out, HLN.out]
  have HB6 := Lib.hid hb6
  clear hb6
  go_wp2_with fail
  go_ret
  exact ⟨rfl, HB4.out.trans ((HB5.out.mono HB4.out.size).trans (HB6.out.mono (Nat.le_trans HB4.out.size HB5.out.size)))⟩
end Go.Proofs.YtghbfbohnoebiaaGreat
namespace Go.Proofs.YtghbfbohnoebiaaGreat
open Go.RowKit Go.Shelf
attribute [local go_sem] Oper.semAt_some

set_option maxRecDepth 100000 in
set_option maxHeartbeats 2000000 in
/-- law27.StoreNils -/
theorem storeNils_calls {Q : Nat → Prop} {w : World} {v : Value} {l : List DStream} (hx : rStream.list.val Q w v l) :
    Calls Tryz.prog 4 #[v] w fun e w' => e = .returned (.bool true) ∧ Below w.heap.size w w' := by
  have HX := Lib.hid hx
  have HM := Lib.hid (muchStreams_calls hx)
  obtain ⟨A, c, rfl, _, _, _⟩ := Rep.val_list hx
  clear hx
  go_enter Tryz.func4, Tryz.ntmps4
  go_wp2_with fail
  refine HM.out.mono ?_
  rintro e w1 ⟨r, rfl, _, hw⟩
  obtain rfl := hw.symm
  clear hw
  cases r with
  | true =>
    go_wp2_with fail
    refine (live27_calls _).mono ?_
    rintro e w1 ⟨rfl, hb⟩
    have HB := Lib.hid hb
    clear hb
    go_wp2_with fail
    go_ret
    exact ⟨rfl, HB.out⟩
  | false =>
    go_wp2_with fail
    refine format_nil.mono ?_
    rintro e w1 ⟨rfl, hb⟩
    have HB1 := Lib.hid hb
    clear hb
    go_wp2_with fail
    refine load_nil.mono ?_
    rintro e w2 ⟨rfl, hw⟩
    obtain rfl := hw.symm
    clear hw
    go_wp2_with fail
    refine (code27 _ _).mono ?_
    rintro e w2 ⟨rfl, hw⟩
    obtain rfl := hw.symm
    clear hw
    go_wp2_with fail
    refine (code27 _ _).mono ?_
    rintro e w2 ⟨rfl, hw⟩
    obtain rfl := hw.symm
    clear hw
    go_wp2_with fail
    refine publish_nil.mono ?_
    rintro e w2 ⟨rfl, hw⟩
    obtain rfl := hw.symm
    clear hw
    go_wp2_with fail
    refine (code27 _ _).mono ?_
    rintro e w2 ⟨rfl, hw⟩
    obtain rfl := hw.symm
    clear hw
    go_wp2_with fail
    refine need_nil.mono ?_
    rintro e w2 ⟨rfl, hw⟩
    obtain rfl := hw.symm
    clear hw
    go_wp2_with fail
    refine slot_nil.mono ?_
    rintro e w2 ⟨rfl, hw⟩
    obtain rfl := hw.symm
    clear hw
    go_wp2_with fail
    refine epoch_nil.mono ?_
    rintro e w2 ⟨rfl, hw⟩
    obtain rfl := hw.symm
    clear hw
    go_wp2_with fail
    refine free_nil.mono ?_
    rintro e w2 ⟨rfl, hw⟩
    obtain rfl := hw.symm
    clear hw
    go_wp2_with fail
    refine held_nil.mono ?_
    rintro e w2 ⟨rfl, hw⟩
    obtain rfl := hw.symm
    clear hw
    go_wp2_with fail
    refine super_nil.mono ?_
    rintro e w2 ⟨rfl, hb⟩
    have HB2 := Lib.hid (HB1.out.trans (hb.mono HB1.out.size))
    clear hb
    go_wp2_with fail
    have hz : ∀ W : World, rSuper.val (fun _ => False) W (.agg #[.int .i64 0, .int .i64 0, .int .i64 0, .int .i64 0, .int .i64 0, .int .i64 0, .int .i64 0, .slice none 0 0]) noSuper := fun W => rSuper_agg (x := noSuper) (by decide) (by decide) (by decide) (by decide) (by decide) (by decide) (by decide) ⟨Nat.le_refl _, by simp [maxLen], [], rfl, fun h => absurd h (by simp [noSuper])⟩
    refine (rsuperSame_calls (hz _) (hz _)).mono ?_
    rintro e w3 ⟨rfl, hb⟩
    have HB3 := Lib.hid (HB2.out.trans (hb.mono HB2.out.size))
    clear hb hz
    rw [decide_eq_true (rfl : noSuper = noSuper)]
    go_wp2_with fail
    refine (live27_calls _).mono ?_
    rintro e w4 ⟨rfl, hb⟩
    have HB4 := Lib.hid (HB3.out.trans (hb.mono HB3.out.size))
    clear hb
    go_wp2_with fail
    go_ret
    exact ⟨rfl, HB4.out⟩
end Go.Proofs.YtghbfbohnoebiaaGreat
