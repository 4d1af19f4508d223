/- Texts on which the proofs stand: StepType, DiskMath, RDiskType. No condition is laid on any input. -/
import Derived.Test.YtfpmkenobphfnaaPstG17
import Derived.Test.YtfpmkenobphfnaaPstTypes
/- A step of a device's script (package vivariumref04) as0 a Lean structure: how it lies in cells. Printed by mkrep.py's program. No program is named here. -/
namespace Go.Proofs.Ytfpmkenobphfnaa
open Go.RowKit

@[ext] structure DStep where
  act : Int
  pos : Int
  b : List UInt8
  fates : List DFate
  deriving DecidableEq

def rStep : Rep DStep := ((Rep.int .i64).pair ((Rep.int .i64).pair (Rep.byte.list.pair rFate.list))).iso fun x => (x.act, x.pos, x.b, x.fates)
theorem rStep_size : rStep.size = 4 := rfl
theorem rStep_open {Q : Nat → Prop} {w : World} {cs : List Value} {x : DStep} (h : rStep.rd Q w cs x) : ∃ (A_b : Option Addr) (c_b : Nat) (A_fates : Option Addr) (c_fates : Nat), cs = [.int .i64 x.act, .int .i64 x.pos, .slice A_b x.b.length c_b, .slice A_fates x.fates.length c_fates] ∧ (Lit.int .i64 x.act).wf = true ∧ (Lit.int .i64 x.pos).wf = true ∧ Rep.byte.Sl Q w A_b c_b x.b ∧ rFate.Sl Q w A_fates c_fates x.fates := by
  obtain ⟨a0, b0, rfl, h0, g0⟩ := h
  obtain ⟨e0, w0⟩ := h0
  subst e0
  obtain ⟨a1, b1, rfl, h1, g1⟩ := g0
  obtain ⟨e1, w1⟩ := h1
  subst e1
  obtain ⟨a2, b2, rfl, h2, g2⟩ := g1
  obtain ⟨A2, c2, e2, w2⟩ := Rep.rd_sl h2
  subst e2
  obtain ⟨A3, c3, e3, w3⟩ := Rep.rd_sl g2
  subst e3
  exact ⟨A2, c2, A3, c3, rfl, w0, w1, w2, w3⟩
theorem rStep_mk {Q : Nat → Prop} {w : World} {x : DStep} {A_b : Option Addr} {c_b : Nat} {A_fates : Option Addr} {c_fates : Nat} (f0 : (Lit.int .i64 x.act).wf = true) (f1 : (Lit.int .i64 x.pos).wf = true) (f2 : Rep.byte.Sl Q w A_b c_b x.b) (f3 : rFate.Sl Q w A_fates c_fates x.fates) : rStep.rd Q w [.int .i64 x.act, .int .i64 x.pos, .slice A_b x.b.length c_b, .slice A_fates x.fates.length c_fates] x := by
  exact ⟨_, _, rfl, ⟨rfl, f0⟩, ⟨_, _, rfl, ⟨rfl, f1⟩, ⟨_, _, rfl, Rep.sl_rd f2, Rep.sl_rd f3⟩⟩⟩
theorem rStep_at {Q : Nat → Prop} {w : World} {A : Option Addr} {xs : List DStep} (h : rStep.At Q w A xs) {i : Nat} {x : DStep} (hx : xs[i]? = some x) :
    ∃ (b off : Nat) (A_b : Option Addr) (c_b : Nat) (A_fates : Option Addr) (c_fates : Nat), A = some ⟨b, off, none⟩ ∧ IsC w b ∧ w.cell? ⟨b, off + i * 4, none⟩ = some (.int .i64 x.act) ∧ w.cell? ⟨b, off + i * 4 + 1, none⟩ = some (.int .i64 x.pos) ∧ w.cell? ⟨b, off + i * 4 + 2, none⟩ = some (.slice A_b x.b.length c_b) ∧ w.cell? ⟨b, off + i * 4 + 3, none⟩ = some (.slice A_fates x.fates.length c_fates) ∧ (Lit.int .i64 x.act).wf = true ∧ (Lit.int .i64 x.pos).wf = true ∧ Rep.byte.Sl Q w A_b c_b x.b ∧ rFate.Sl Q w A_fates c_fates x.fates := by
  obtain ⟨b, off, es, h1, _, h2, h3, h4⟩ := h.get hx
  obtain ⟨A_b, c_b, A_fates, c_fates, e, f0, f1, f2, f3⟩ := rStep_open h3
  subst e
  rw [rStep_size] at h4
  exact ⟨b, off, A_b, c_b, A_fates, c_fates, h1, h2, h4 0 _ rfl, h4 1 _ rfl, h4 2 _ rfl, h4 3 _ rfl, f0, f1, f2, f3⟩
theorem rStep_val {Q : Nat → Prop} {w : World} {v : Value} {x : DStep} (h : rStep.val Q w v x) : ∃ (A_b : Option Addr) (c_b : Nat) (A_fates : Option Addr) (c_fates : Nat), v = .agg #[.int .i64 x.act, .int .i64 x.pos, .slice A_b x.b.length c_b, .slice A_fates x.fates.length c_fates] ∧ (Lit.int .i64 x.act).wf = true ∧ (Lit.int .i64 x.pos).wf = true ∧ Rep.byte.Sl Q w A_b c_b x.b ∧ rFate.Sl Q w A_fates c_fates x.fates := by
  obtain ⟨cs, rfl, h⟩ := h
  obtain ⟨A_b, c_b, A_fates, c_fates, e, f0, f1, f2, f3⟩ := rStep_open h
  subst e
  exact ⟨A_b, c_b, A_fates, c_fates, rfl, f0, f1, f2, f3⟩
theorem rStep_agg {Q : Nat → Prop} {w : World} {x : DStep} {A_b : Option Addr} {c_b : Nat} {A_fates : Option Addr} {c_fates : Nat} (f0 : (Lit.int .i64 x.act).wf = true) (f1 : (Lit.int .i64 x.pos).wf = true) (f2 : Rep.byte.Sl Q w A_b c_b x.b) (f3 : rFate.Sl Q w A_fates c_fates x.fates) : rStep.val Q w (.agg #[.int .i64 x.act, .int .i64 x.pos, .slice A_b x.b.length c_b, .slice A_fates x.fates.length c_fates]) x := ⟨_, rfl, rStep_mk f0 f1 f2 f3⟩

end Go.Proofs.Ytfpmkenobphfnaa
/- What is safe stays: the plain law of a device. -/
namespace Go.Proofs.Ytfpmkenobphfnaa
open Go.RowKit

def stepSt (st : DiskSt) (x : DStep) : DiskSt :=
  if x.act = 1 then (writeSt st x.pos x.b).1 else if x.act = 2 then (syncRes st).1 else if x.act = 3 then fuseSt st x.pos else if x.act = 4 then crashSt st x.fates else (readSt st x.pos).1
/-- What a step reads, and its error. -/
def outSt (st : DiskSt) (x : DStep) : List UInt8 × Int :=
  if x.act = 1 then ([], (writeSt st x.pos x.b).2) else if x.act = 2 then ([], (syncRes st).2) else if x.act = 3 then ([], 0) else if x.act = 4 then ([], 0) else (readSt st x.pos).2
def runSt (st : DiskSt) (l : List DStep) : DiskSt := l.foldl stepSt st
/-- All sectors are whole, and so are the writes that wait. -/
structure Sound (st : DiskSt) (k : Nat) : Prop where
  len : st.safe.length = k
  sec : ∀ x ∈ st.safe, x.length = 512
  wt : ∀ i, ∀ x ∈ st.wait i, x.length = 512
  key : ∀ i, st.wait i ≠ [] → 0 ≤ i ∧ i < k
/-- Nothing waits for a sector, and it is what it was. -/
def Still (s0 st : DiskSt) (i : Nat) : Prop := st.wait i = [] ∧ st.safe[i]? = s0.safe[i]?

theorem Sound.of_same {st st' : DiskSt} {k : Nat} (h : Sound st k) (h1 : st'.safe = st.safe) (h2 : st'.wait = st.wait) : Sound st' k := ⟨by rw [h1]; exact h.len, by rw [h1]; exact h.sec, by rw [h2]; exact h.wt, by rw [h2]; exact h.key⟩
theorem Still.of_same {s0 st st' : DiskSt} {i : Nat} (h : Still s0 st i) (h1 : st'.safe = st.safe) (h2 : st'.wait = st.wait) : Still s0 st' i := ⟨by rw [h2]; exact h.1, by rw [h1]; exact h.2⟩
theorem lastSt_length {st : DiskSt} {k : Nat} (h : Sound st k) {i : Nat} (hi : i < k) : (lastSt st (i : Nat)).length = 512 := by
  unfold lastSt
  cases hl : (st.wait (i : Int)).getLast? with
  | none =>
    rw [Option.getD_none, Int.toNat_natCast, List.getD_eq_getElem?_getD, List.getElem?_eq_getElem (by rw [h.len]; exact hi)]
    exact h.sec _ (List.getElem_mem _)
  | some y => exact h.wt _ y (List.mem_of_getLast? hl)
theorem lastSt_still {st : DiskSt} {i : Nat} (hw : st.wait (i : Int) = []) : lastSt st (i : Nat) = st.safe.getD i [] := by
  unfold lastSt; rw [hw]; rfl
theorem settle_length {s : List UInt8} {l : List (List UInt8)} {f : DFate} (hs : s.length = 512) (hl : ∀ x ∈ l, x.length = 512) : (settleOf s l f).length = 512 := by
  have hk := kept_le f l.length
  have hget : ∀ j, j < (s :: l).length → ((s :: l).getD j []).length = 512 := fun j hj => by
    rw [List.getD_eq_getElem?_getD, List.getElem?_eq_getElem hj]
    rcases List.mem_cons.1 (List.getElem_mem hj) with e | e
    · show ((s :: l)[j]).length = 512
      rw [e]; exact hs
    · exact hl _ e
  unfold settleOf
  split
  · exact tear_length _ _ _
  · exact hget _ (by simp only [List.length_cons]; omega)

theorem readSt_alike (st : DiskSt) (i : Int) : (readSt st i).1.safe = st.safe ∧ (readSt st i).1.wait = st.wait := by
  have hs := atSt_same st i
  unfold readSt; split
  · exact hs
  · exact hs
theorem write_sound {st : DiskSt} {k : Nat} (h : Sound st k) (i : Int) (b : List UInt8) : Sound (writeSt st i b).1 k := by
  have hs := atSt_same st i
  unfold writeSt
  split
  · rename_i he
    have hr := atSt_range he
    refine ⟨by show (atSt st i).1.safe.length = k; rw [hs.1]; exact h.len, by show ∀ x ∈ (atSt st i).1.safe, _; rw [hs.1]; exact h.sec, fun j x hx => ?_, fun j hj => ?_⟩
    · change x ∈ (if j = i then (atSt st i).1.wait i ++ [cutTo b 512] else (atSt st i).1.wait j) at hx
      rw [hs.2] at hx
      split at hx
      · rcases List.mem_append.1 hx with hx | hx
        · exact h.wt _ x hx
        · have := List.mem_singleton.1 hx
          subst this
          exact cutTo_length _ _
      · exact h.wt _ x hx
    · change (if j = i then (atSt st i).1.wait i ++ [cutTo b 512] else (atSt st i).1.wait j) ≠ [] at hj
      rw [hs.2] at hj
      split at hj
      · rename_i e; rw [e]; have := h.len; omega
      · exact h.key j hj
  · exact h.of_same hs.1 hs.2
theorem write_still {s0 st : DiskSt} {i : Nat} (h : Still s0 st i) {j : Int} (b : List UInt8) (hj : j ≠ i) : Still s0 (writeSt st j b).1 i := by
  have hs := atSt_same st j
  unfold writeSt
  split
  · refine ⟨?_, by show (atSt st j).1.safe[i]? = _; rw [hs.1]; exact h.2⟩
    show (if (i : Int) = j then (atSt st j).1.wait j ++ [cutTo b 512] else (atSt st j).1.wait i) = []
    rw [if_neg (fun e => hj e.symm), hs.2]; exact h.1
  · exact h.of_same hs.1 hs.2
theorem sync_sound {st : DiskSt} {k : Nat} (h : Sound st k) : Sound (syncSt st) k := by
  refine ⟨by show ((List.range st.safe.length).map _).length = k; rw [List.length_map, List.length_range]; exact h.len, fun x hx => ?_, fun i x hx => (by cases hx), fun i hi => absurd rfl hi⟩
  obtain ⟨i, hi, rfl⟩ := List.mem_map.1 hx
  exact lastSt_length h (by have := List.mem_range.1 hi; have := h.len; omega)
theorem sync_get (st : DiskSt) {i : Nat} (hw : st.wait (i : Int) = []) : (syncSt st).safe[i]? = st.safe[i]? := by
  show ((List.range st.safe.length).map fun i => lastSt st (i : Nat))[i]? = _
  by_cases hi : i < st.safe.length
  · rw [List.getElem?_map, List.getElem?_range hi]
    show some (lastSt st (i : Nat)) = _
    rw [lastSt_still hw, List.getD_eq_getElem?_getD, List.getElem?_eq_getElem hi]; rfl
  · rw [List.getElem?_eq_none (by simpa using hi), List.getElem?_eq_none (by omega)]
theorem sync_still {s0 st : DiskSt} {i : Nat} (h : Still s0 st i) : Still s0 (syncSt st) i := ⟨rfl, (sync_get st h.1).trans h.2⟩
theorem syncRes_sound {st : DiskSt} {k : Nat} (h : Sound st k) : Sound (syncRes st).1 k := by
  have hs := burnSt_same st
  unfold syncRes; split
  · exact sync_sound (h.of_same hs.1 hs.2)
  · exact h.of_same hs.1 hs.2
theorem syncRes_still {s0 st : DiskSt} {i : Nat} (h : Still s0 st i) : Still s0 (syncRes st).1 i := by
  have hs := burnSt_same st
  unfold syncRes; split
  · exact sync_still (h.of_same hs.1 hs.2)
  · exact h.of_same hs.1 hs.2
theorem dirty_nonempty {s : DiskSt} {z : Int} (hz : z ∈ dirtyOf s) : s.wait z ≠ [] := by
  unfold dirtyOf at hz
  obtain ⟨i, hi, rfl⟩ := List.mem_map.1 hz
  have := (List.mem_filter.1 hi).2
  intro e; rw [e] at this; cases this
theorem dirty_getD {s : DiskSt} {k : Nat} (hk : k < (dirtyOf s).length) : (dirtyOf s).getD k 0 ∈ dirtyOf s := by
  rw [List.getD_eq_getElem?_getD, List.getElem?_eq_getElem hk]; exact List.getElem_mem hk
theorem crashTo_sec {s : DiskSt} {n : Nat} (h : Sound s n) (fates : List DFate) : ∀ k, k ≤ (dirtyOf s).length → ∀ x ∈ crashTo s fates k, x.length = 512
  | 0, _ => h.sec
  | k + 1, hk => by
    intro x hx
    have ih := crashTo_sec h fates k (by omega)
    have hb := dirty_bounds (dirty_getD (show k < (dirtyOf s).length by omega))
    unfold crashTo at hx
    rcases List.mem_or_eq_of_mem_set hx with hx | rfl
    · exact ih x hx
    · refine settle_length ?_ (h.wt _)
      rw [List.getD_eq_getElem?_getD, List.getElem?_eq_getElem (by rw [crashTo_length]; omega)]
      exact ih _ (List.getElem_mem _)
theorem crashTo_still {s : DiskSt} {i : Nat} (hw : s.wait (i : Int) = []) (fates : List DFate) : ∀ k, k ≤ (dirtyOf s).length → (crashTo s fates k)[i]? = s.safe[i]?
  | 0, _ => rfl
  | k + 1, hk => by
    have hm := dirty_getD (show k < (dirtyOf s).length by omega)
    have hb := dirty_bounds hm
    have hne := dirty_nonempty hm
    unfold crashTo
    rw [List.getElem?_set_ne (fun e => hne (by rw [show (dirtyOf s).getD k 0 = (i : Int) by omega]; exact hw))]
    exact crashTo_still hw fates k (by omega)
theorem crash_sound {st : DiskSt} {k : Nat} (h : Sound st k) (fates : List DFate) : Sound (crashSt st fates) k :=
  ⟨(crashTo_length st fates _).trans h.len, crashTo_sec h fates _ (Nat.le_refl _), fun i x hx => (by cases hx), fun i hi => absurd rfl hi⟩
theorem crash_still {s0 st : DiskSt} {i : Nat} (h : Still s0 st i) (fates : List DFate) : Still s0 (crashSt st fates) i := ⟨rfl, (crashTo_still h.1 fates _ (Nat.le_refl _)).trans h.2⟩
theorem step_sound {st : DiskSt} {k : Nat} (h : Sound st k) (x : DStep) : Sound (stepSt st x) k := by
  unfold stepSt
  split
  · exact write_sound h _ _
  · split
    · exact syncRes_sound h
    · split
      · exact h.of_same rfl rfl
      · split
        · exact crash_sound h _
        · exact h.of_same (readSt_alike st x.pos).1 (readSt_alike st x.pos).2
theorem step_still {s0 st : DiskSt} {i : Nat} (h : Still s0 st i) {x : DStep} (hx : ¬ (x.act = 1 ∧ x.pos = i)) : Still s0 (stepSt st x) i := by
  unfold stepSt
  split
  · rename_i e
    exact write_still h _ (fun e2 => hx ⟨e, e2⟩)
  · split
    · exact syncRes_still h
    · split
      · exact h.of_same rfl rfl
      · split
        · exact crash_still h _
        · exact h.of_same (readSt_alike st x.pos).1 (readSt_alike st x.pos).2
theorem run_succ (st : DiskSt) {l : List DStep} {k : Nat} {x : DStep} (h : l[k]? = some x) : runSt st (l.take (k + 1)) = stepSt (runSt st (l.take k)) x := by
  obtain ⟨hk, he⟩ := List.getElem?_eq_some_iff.1 h
  unfold runSt
  rw [List.take_succ_eq_append_getElem hk, he, List.foldl_append]; rfl

/-- Behind a failure of the power a sync and one more failure change nothing. -/
theorem quiet_after (s : DiskSt) (f g : List DFate) : (syncRes (crashSt s f)).2 = 0 ∧ (crashSt (syncRes (crashSt s f)).1 g).safe = (crashSt s f).safe ∧ dirtyOf (crashSt (syncRes (crashSt s f)).1 g) = [] := by
  have hb : burnSt (crashSt s f) = (crashSt s f, 0) := rfl
  have hs : syncRes (crashSt s f) = (syncSt (crashSt s f), 0) := by unfold syncRes; rw [hb]; rfl
  have hdirty : ∀ t : DiskSt, (∀ i, t.wait i = []) → dirtyOf t = [] := fun t ht => by
    unfold dirtyOf
    rw [List.map_eq_nil_iff, List.filter_eq_nil_iff]
    intro i _
    rw [ht]; simp
  have hsafe : (syncSt (crashSt s f)).safe = (crashSt s f).safe := List.ext_getElem? fun i => sync_get _ rfl
  rw [hs]
  refine ⟨rfl, ?_, hdirty _ (fun _ => rfl)⟩
  show crashTo (syncSt (crashSt s f)) g (dirtyOf (syncSt (crashSt s f))).length = _
  rw [hdirty (syncSt (crashSt s f)) (fun _ => rfl)]
  exact hsafe
theorem crash_calm (s : DiskSt) (f : List DFate) : (crashSt s f).off = false := rfl
theorem flatten_sec : ∀ {ls : List (List UInt8)} (_ : ∀ x ∈ ls, x.length = 512) {i : Nat} {y : List UInt8} (_ : ls[i]? = some y), (ls.flatten.drop (512 * i)).take 512 = y
  | [], _, i, y, h => by simp at h
  | x :: xs, hx, 0, y, h => by
    have e : x = y := by simpa using h
    have hl := hx x (by simp)
    subst e
    rw [List.flatten_cons, Nat.mul_zero, List.drop_zero, ← hl, List.take_left]
  | x :: xs, hx, i + 1, y, h => by
    have hl := hx x (by simp)
    rw [List.flatten_cons, show 512 * (i + 1) = x.length + 512 * i by rw [hl]; omega, List.drop_length_add_append]
    exact flatten_sec (fun z hz => hx z (by simp [hz])) (by simpa using h)
theorem flatten_length : ∀ {ls : List (List UInt8)} (_ : ∀ x ∈ ls, x.length = 512), ls.flatten.length = 512 * ls.length
  | [], _ => rfl
  | x :: xs, hx => by
    rw [List.flatten_cons, List.length_append, hx x (by simp), flatten_length (fun z hz => hx z (by simp [hz])), List.length_cons]; omega
end Go.Proofs.Ytfpmkenobphfnaa
/- A write, and a disk, of package vivariumref04 as0 Lean structures: how they lie in cells. Printed by mkextra.py. No program is named here. -/
namespace Go.Proofs.Ytfpmkenobphfnaa
open Go.RowKit

@[ext] structure DWrite where
  pos : Int
  b : List UInt8
  deriving DecidableEq

def rWrite : Rep DWrite := ((Rep.int .i64).pair Rep.byte.list).iso fun x => (x.pos, x.b)
theorem rWrite_size : rWrite.size = 2 := rfl
theorem rWrite_open {Q : Nat → Prop} {w : World} {cs : List Value} {x : DWrite} (h : rWrite.rd Q w cs x) : ∃ (A_b : Option Addr) (c_b : Nat), cs = [.int .i64 x.pos, .slice A_b x.b.length c_b] ∧ (Lit.int .i64 x.pos).wf = true ∧ Rep.byte.Sl Q w A_b c_b x.b := by
  obtain ⟨a0, b0, rfl, h0, g0⟩ := h
  obtain ⟨e0, w0⟩ := h0
  subst e0
  obtain ⟨A1, c1, e1, w1⟩ := Rep.rd_sl g0
  subst e1
  exact ⟨A1, c1, rfl, w0, w1⟩
theorem rWrite_mk {Q : Nat → Prop} {w : World} {x : DWrite} {A_b : Option Addr} {c_b : Nat} (f0 : (Lit.int .i64 x.pos).wf = true) (f1 : Rep.byte.Sl Q w A_b c_b x.b) : rWrite.rd Q w [.int .i64 x.pos, .slice A_b x.b.length c_b] x := by
  exact ⟨_, _, rfl, ⟨rfl, f0⟩, Rep.sl_rd f1⟩
theorem rWrite_at {Q : Nat → Prop} {w : World} {A : Option Addr} {xs : List DWrite} (h : rWrite.At Q w A xs) {i : Nat} {x : DWrite} (hx : xs[i]? = some x) :
    ∃ (b off : Nat) (A_b : Option Addr) (c_b : Nat), A = some ⟨b, off, none⟩ ∧ IsC w b ∧ w.cell? ⟨b, off + i * 2, none⟩ = some (.int .i64 x.pos) ∧ w.cell? ⟨b, off + i * 2 + 1, none⟩ = some (.slice A_b x.b.length c_b) ∧ (Lit.int .i64 x.pos).wf = true ∧ Rep.byte.Sl Q w A_b c_b x.b := by
  obtain ⟨b, off, es, h1, _, h2, h3, h4⟩ := h.get hx
  obtain ⟨A_b, c_b, e, f0, f1⟩ := rWrite_open h3
  subst e
  rw [rWrite_size] at h4
  exact ⟨b, off, A_b, c_b, h1, h2, h4 0 _ rfl, h4 1 _ rfl, f0, f1⟩
theorem rWrite_val {Q : Nat → Prop} {w : World} {v : Value} {x : DWrite} (h : rWrite.val Q w v x) : ∃ (A_b : Option Addr) (c_b : Nat), v = .agg #[.int .i64 x.pos, .slice A_b x.b.length c_b] ∧ (Lit.int .i64 x.pos).wf = true ∧ Rep.byte.Sl Q w A_b c_b x.b := by
  obtain ⟨cs, rfl, h⟩ := h
  obtain ⟨A_b, c_b, e, f0, f1⟩ := rWrite_open h
  subst e
  exact ⟨A_b, c_b, rfl, f0, f1⟩
theorem rWrite_agg {Q : Nat → Prop} {w : World} {x : DWrite} {A_b : Option Addr} {c_b : Nat} (f0 : (Lit.int .i64 x.pos).wf = true) (f1 : Rep.byte.Sl Q w A_b c_b x.b) : rWrite.val Q w (.agg #[.int .i64 x.pos, .slice A_b x.b.length c_b]) x := ⟨_, rfl, rWrite_mk f0 f1⟩

@[ext] structure DDisk where
  safe : List (List UInt8)
  wait : List DWrite
  fuse : Int
  off : Bool
  reads : Int
  writes : Int
  deriving DecidableEq

def rDisk : Rep DDisk := (Rep.byte.list.list.pair (rWrite.list.pair ((Rep.int .i64).pair (Rep.bool.pair ((Rep.int .i64).pair (Rep.int .i64)))))).iso fun x => (x.safe, x.wait, x.fuse, x.off, x.reads, x.writes)
theorem rDisk_size : rDisk.size = 6 := rfl
theorem rDisk_open {Q : Nat → Prop} {w : World} {cs : List Value} {x : DDisk} (h : rDisk.rd Q w cs x) : ∃ (A_safe : Option Addr) (c_safe : Nat) (A_wait : Option Addr) (c_wait : Nat), cs = [.slice A_safe x.safe.length c_safe, .slice A_wait x.wait.length c_wait, .int .i64 x.fuse, .bool x.off, .int .i64 x.reads, .int .i64 x.writes] ∧ Rep.byte.list.Sl Q w A_safe c_safe x.safe ∧ rWrite.Sl Q w A_wait c_wait x.wait ∧ (Lit.int .i64 x.fuse).wf = true ∧ (Lit.int .i64 x.reads).wf = true ∧ (Lit.int .i64 x.writes).wf = true := by
  obtain ⟨a0, b0, rfl, h0, g0⟩ := h
  obtain ⟨A0, c0, e0, w0⟩ := Rep.rd_sl h0
  subst e0
  obtain ⟨a1, b1, rfl, h1, g1⟩ := g0
  obtain ⟨A1, c1, e1, w1⟩ := Rep.rd_sl h1
  subst e1
  obtain ⟨a2, b2, rfl, h2, g2⟩ := g1
  obtain ⟨e2, w2⟩ := h2
  subst e2
  obtain ⟨a3, b3, rfl, h3, g3⟩ := g2
  have e3 := h3
  subst e3
  obtain ⟨a4, b4, rfl, h4, g4⟩ := g3
  obtain ⟨e4, w4⟩ := h4
  subst e4
  obtain ⟨e5, w5⟩ := g4
  subst e5
  exact ⟨A0, c0, A1, c1, rfl, w0, w1, w2, w4, w5⟩
theorem rDisk_mk {Q : Nat → Prop} {w : World} {x : DDisk} {A_safe : Option Addr} {c_safe : Nat} {A_wait : Option Addr} {c_wait : Nat} (f0 : Rep.byte.list.Sl Q w A_safe c_safe x.safe) (f1 : rWrite.Sl Q w A_wait c_wait x.wait) (f2 : (Lit.int .i64 x.fuse).wf = true) (f3 : (Lit.int .i64 x.reads).wf = true) (f4 : (Lit.int .i64 x.writes).wf = true) : rDisk.rd Q w [.slice A_safe x.safe.length c_safe, .slice A_wait x.wait.length c_wait, .int .i64 x.fuse, .bool x.off, .int .i64 x.reads, .int .i64 x.writes] x := by
  exact ⟨_, _, rfl, Rep.sl_rd f0, ⟨_, _, rfl, Rep.sl_rd f1, ⟨_, _, rfl, ⟨rfl, f2⟩, ⟨_, _, rfl, rfl, ⟨_, _, rfl, ⟨rfl, f3⟩, ⟨rfl, f4⟩⟩⟩⟩⟩⟩
theorem rDisk_at {Q : Nat → Prop} {w : World} {A : Option Addr} {xs : List DDisk} (h : rDisk.At Q w A xs) {i : Nat} {x : DDisk} (hx : xs[i]? = some x) :
    ∃ (b off : Nat) (A_safe : Option Addr) (c_safe : Nat) (A_wait : Option Addr) (c_wait : Nat), A = some ⟨b, off, none⟩ ∧ IsC w b ∧ w.cell? ⟨b, off + i * 6, none⟩ = some (.slice A_safe x.safe.length c_safe) ∧ w.cell? ⟨b, off + i * 6 + 1, none⟩ = some (.slice A_wait x.wait.length c_wait) ∧ w.cell? ⟨b, off + i * 6 + 2, none⟩ = some (.int .i64 x.fuse) ∧ w.cell? ⟨b, off + i * 6 + 3, none⟩ = some (.bool x.off) ∧ w.cell? ⟨b, off + i * 6 + 4, none⟩ = some (.int .i64 x.reads) ∧ w.cell? ⟨b, off + i * 6 + 5, none⟩ = some (.int .i64 x.writes) ∧ Rep.byte.list.Sl Q w A_safe c_safe x.safe ∧ rWrite.Sl Q w A_wait c_wait x.wait ∧ (Lit.int .i64 x.fuse).wf = true ∧ (Lit.int .i64 x.reads).wf = true ∧ (Lit.int .i64 x.writes).wf = true := by
  obtain ⟨b, off, es, h1, _, h2, h3, h4⟩ := h.get hx
  obtain ⟨A_safe, c_safe, A_wait, c_wait, e, f0, f1, f2, f3, f4⟩ := rDisk_open h3
  subst e
  rw [rDisk_size] at h4
  exact ⟨b, off, A_safe, c_safe, A_wait, c_wait, h1, h2, h4 0 _ rfl, h4 1 _ rfl, h4 2 _ rfl, h4 3 _ rfl, h4 4 _ rfl, h4 5 _ rfl, f0, f1, f2, f3, f4⟩
theorem rDisk_val {Q : Nat → Prop} {w : World} {v : Value} {x : DDisk} (h : rDisk.val Q w v x) : ∃ (A_safe : Option Addr) (c_safe : Nat) (A_wait : Option Addr) (c_wait : Nat), v = .agg #[.slice A_safe x.safe.length c_safe, .slice A_wait x.wait.length c_wait, .int .i64 x.fuse, .bool x.off, .int .i64 x.reads, .int .i64 x.writes] ∧ Rep.byte.list.Sl Q w A_safe c_safe x.safe ∧ rWrite.Sl Q w A_wait c_wait x.wait ∧ (Lit.int .i64 x.fuse).wf = true ∧ (Lit.int .i64 x.reads).wf = true ∧ (Lit.int .i64 x.writes).wf = true := by
  obtain ⟨cs, rfl, h⟩ := h
  obtain ⟨A_safe, c_safe, A_wait, c_wait, e, f0, f1, f2, f3, f4⟩ := rDisk_open h
  subst e
  exact ⟨A_safe, c_safe, A_wait, c_wait, rfl, f0, f1, f2, f3, f4⟩
theorem rDisk_agg {Q : Nat → Prop} {w : World} {x : DDisk} {A_safe : Option Addr} {c_safe : Nat} {A_wait : Option Addr} {c_wait : Nat} (f0 : Rep.byte.list.Sl Q w A_safe c_safe x.safe) (f1 : rWrite.Sl Q w A_wait c_wait x.wait) (f2 : (Lit.int .i64 x.fuse).wf = true) (f3 : (Lit.int .i64 x.reads).wf = true) (f4 : (Lit.int .i64 x.writes).wf = true) : rDisk.val Q w (.agg #[.slice A_safe x.safe.length c_safe, .slice A_wait x.wait.length c_wait, .int .i64 x.fuse, .bool x.off, .int .i64 x.reads, .int .i64 x.writes]) x := ⟨_, rfl, rDisk_mk f0 f1 f2 f3 f4⟩

end Go.Proofs.Ytfpmkenobphfnaa
