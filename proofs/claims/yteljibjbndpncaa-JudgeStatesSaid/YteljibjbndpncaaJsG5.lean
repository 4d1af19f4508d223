/- Texts on which the proofs stand: StateMath, StateAcc, OwnOps. No condition is laid on any input. -/
import Derived.Test.YteljibjbndpncaaJsG4
import Derived.Laws.CopyRow
import Derived.Deep.DeepAppendRoom
import Derived.Lib.AppendZerosOnto
import Derived.Lib.Overlaps
namespace Go.Proofs.Yteljibjbndpncaa
open Go.RowKit

def noID : DID := ⟨0, 0⟩
def compSize (c : DConf) (k : Int) : Option Int := if 0 ≤ k then (c.comps[k.toNat]?).map (·.size) else none
def belowE (i : Int) (e : DEnt) : Bool := decide (e.id.index < i)
def belowP (k : Int) (p : DPart) : Bool := decide (p.comp < k)
def insEnt (id : DID) (es : List DEnt) : List DEnt := es.takeWhile (belowE id.index) ++ ⟨id, []⟩ :: es.dropWhile (belowE id.index)
def placeOf (es : List DEnt) (id : DID) : Option Nat := es.findIdx? (fun e => decide (e.id = id))
def spawnS (c : DConf) (s : DState) : DState × DID × Int :=
  match s.free.getLast? with
  | some k => (⟨s.gens, s.free.dropLast, insEnt ⟨k, s.gens.getD k.toNat 0⟩ s.ents⟩, ⟨k, s.gens.getD k.toNat 0⟩, 0)
  | none => if (s.gens.length : Int) = c.entities then (s, noID, 9) else (⟨s.gens ++ [0], s.free, insEnt ⟨s.gens.length, 0⟩ s.ents⟩, ⟨s.gens.length, 0⟩, 0)
def despawnS (c : DConf) (s : DState) (id : DID) : DState × Int :=
  match placeOf s.ents id with
  | none => (s, 5)
  | some i => (⟨s.gens.set id.index.toNat (id.gen + 1), if id.gen + 1 < c.gens then s.free ++ [id.index] else s.free, s.ents.eraseIdx i⟩, 0)
def putPart (l : List DPart) (k : Int) (b : List UInt8) : List DPart :=
  l.takeWhile (belowP k) ++ ⟨k, b⟩ :: (l.dropWhile (belowP k)).filter (fun p => decide (p.comp ≠ k))
def setS (c : DConf) (s : DState) (id : DID) (k : Int) (b : List UInt8) : DState × Int :=
  match placeOf s.ents id with
  | none => (s, 5)
  | some i => match compSize c k with
    | none => (s, 6)
    | some n => if (b.length : Int) = n then (⟨s.gens, s.free, s.ents.modify i (fun e => ⟨e.id, putPart e.parts k b⟩)⟩, 0) else (s, 7)
def partOf (l : List DPart) (k : Int) : Option Nat := l.findIdx? (fun p => decide (p.comp = k))
def removeS (c : DConf) (s : DState) (id : DID) (k : Int) : DState × Int :=
  match placeOf s.ents id with
  | none => (s, 5)
  | some i => match compSize c k with
    | none => (s, 6)
    | some _ => match partOf ((s.ents[i]?.map (·.parts)).getD []) k with
      | none => (s, 8)
      | some j => (⟨s.gens, s.free, s.ents.modify i (fun e => ⟨e.id, e.parts.eraseIdx j⟩)⟩, 0)
def goS (c : DConf) (s : DState) (kind : Int) (id : DID) (k : Int) (b : List UInt8) : DState × DResult :=
  if kind = 1 then ((despawnS c s id).1, ⟨(despawnS c s id).2, noID⟩)
  else if kind = 2 then ((setS c s id k b).1, ⟨(setS c s id k b).2, noID⟩)
  else if kind = 3 then ((removeS c s id k).1, ⟨(removeS c s id k).2, noID⟩)
  else ((spawnS c s).1, ⟨(spawnS c s).2.2, (spawnS c s).2.1⟩)
def spawnsOf (l : List DCmd) (done : List DResult) : List DResult := ((l.zip done).filter (fun x => decide (x.1.kind = 0))).map (·.2)
def findS (l : List DCmd) (done : List DResult) (k : Int) : Option DID :=
  if 0 ≤ k then match (spawnsOf l done)[k.toNat]? with
    | some r => if r.err = 0 then some r.id else none
    | none => none
  else none
def oneS (c : DConf) (s : DState) (ahead : List DCmd) (done : List DResult) (x : DCmd) : DState × DResult :=
  if x.kind < 0 ∨ 3 < x.kind then (s, ⟨1, noID⟩)
  else match (if x.loc = true ∧ 0 < x.kind then findS ahead done x.id.index else some x.id) with
    | none => (s, ⟨10, noID⟩)
    | some id => goS c s x.kind id x.comp x.data
def runS (c : DConf) (s : DState) (l : List DCmd) : Nat → DState × List DResult
  | 0 => (s, [])
  | n + 1 => let q := runS c s l n
    match l[n]? with
    | some x => let r := oneS c q.1 (l.take n) q.2 x
      (r.1, q.2 ++ [r.2])
    | none => q
def allS (c : DConf) (s : DState) (l : List DCmd) : DState × List DResult := runS c s l l.length
def noState : DState := ⟨[], [], []⟩
def stateS (c : DConf) (frames : List (List DCmd)) : Nat → DState
  | 0 => noState
  | n + 1 => match frames[n]? with
    | some l => (allS c (stateS c frames n) l).1
    | none => stateS c frames n
/-- Parts that may be. -/
structure PartsOk (c : DConf) (l : List DPart) : Prop where
  size : ∀ p ∈ l, compSize c p.comp = some (p.data.length : Int)
  up : l.Pairwise fun a b => a.comp < b.comp
/-- A state that may be. -/
structure StOk (c : DConf) (s : DState) : Prop where
  conf : confRight c = true
  many : (s.gens.length : Int) ≤ c.entities
  lim : ∀ (i : Nat) g, s.gens[i]? = some g → 0 ≤ g ∧ g ≤ c.gens
  free : ∀ k ∈ s.free, 0 ≤ k ∧ ∃ g, s.gens[k.toNat]? = some g ∧ 0 < g ∧ g < c.gens
  nodup : s.free.Nodup
  up : s.ents.Pairwise fun a b => a.id.index < b.id.index
  nat : ∀ e ∈ s.ents, 0 ≤ e.id.index
  alive : ∀ (i : Nat) g, (∃ e ∈ s.ents, e.id = ⟨i, g⟩) ↔ (s.gens[i]? = some g ∧ g < c.gens ∧ (i : Int) ∉ s.free)
  parts : ∀ e ∈ s.ents, PartsOk c e.parts

theorem up_length {l : List Int} {n : Nat} (hu : l.Pairwise (· < ·)) (h0 : ∀ x ∈ l, 0 ≤ x) (h1 : ∀ x ∈ l, x < n) : l.length ≤ n := by
  have key : ∀ (l : List Int) (lo : Int), l.Pairwise (· < ·) → (∀ x ∈ l, lo ≤ x) → (∀ x ∈ l, x < n) → lo ≤ n → lo + l.length ≤ n := by
    intro l
    induction l with
    | nil => intro lo _ _ _ h; simpa using h
    | cons x r ih =>
      intro lo hu h0 h1 hl
      have h2 := List.pairwise_cons.1 hu
      have hx := h0 x (by simp)
      have hx1 := h1 x (by simp)
      have := ih (x + 1) h2.2 (fun y hy => by have := h2.1 y hy; omega) (fun y hy => h1 y (by simp [hy])) (by omega)
      rw [List.length_cons]
      omega
  have := key l 0 hu h0 h1 (by omega)
  omega
theorem nodup_length {l : List Int} {n : Nat} (hu : l.Nodup) (h0 : ∀ x ∈ l, 0 ≤ x) (h1 : ∀ x ∈ l, x < n) : l.length ≤ n := by
  induction n generalizing l with
  | zero =>
    cases l with
    | nil => simp
    | cons x r => have a := h0 x (by simp); have b := h1 x (by simp); omega
  | succ n ih =>
    have hl := ih (l := l.erase (n : Int)) (hu.erase _) (fun x hx => h0 x (List.mem_of_mem_erase hx)) (fun x hx => by
      have h2 := (List.Nodup.mem_erase_iff hu).1 hx
      have := h1 x h2.2
      omega)
    rw [List.length_erase] at hl
    split at hl <;> omega
theorem compSize_lt {c : DConf} {k n : Int} (h : compSize c k = some n) : 0 ≤ k ∧ k < c.comps.length ∧ ∃ x, c.comps[k.toNat]? = some x ∧ x.size = n := by
  unfold compSize at h
  split at h
  · rename_i h0
    obtain ⟨x, hx, he⟩ := Option.map_eq_some_iff.1 h
    have := (List.getElem?_eq_some_iff.1 hx).1
    exact ⟨h0, by omega, x, hx, he⟩
  · cases h
theorem compSize_small {c : DConf} {k n : Int} (hr : confRight c = true) (h : compSize c k = some n) : 0 ≤ n ∧ n ≤ 64 := by
  obtain ⟨h0, h1, x, hx, rfl⟩ := compSize_lt h
  obtain ⟨hl, he⟩ := List.getElem?_eq_some_iff.1 hx
  have := (right_facts hr).2 _ hl
  rw [he] at this
  exact ⟨this.1, this.2.1⟩
theorem PartsOk.len {c : DConf} {l : List DPart} (h : PartsOk c l) : l.length ≤ c.comps.length := by
  have := up_length (l := l.map (·.comp)) (n := c.comps.length) (List.pairwise_map.2 h.up) (fun x hx => by
    obtain ⟨p, hp, rfl⟩ := List.mem_map.1 hx
    exact (compSize_lt (h.size p hp)).1) (fun x hx => by
    obtain ⟨p, hp, rfl⟩ := List.mem_map.1 hx
    exact (compSize_lt (h.size p hp)).2.1)
  rwa [List.length_map] at this
theorem PartsOk.data {c : DConf} {l : List DPart} (hr : confRight c = true) (h : PartsOk c l) {p : DPart} (hp : p ∈ l) : p.data.length ≤ 64 := by
  have := compSize_small hr (h.size p hp)
  omega
section
variable {c : DConf} {s : DState}
theorem StOk.idx (h : StOk c s) {e : DEnt} (he : e ∈ s.ents) : 0 ≤ e.id.index ∧ e.id.index < s.gens.length ∧ s.gens[e.id.index.toNat]? = some e.id.gen ∧ e.id.gen < c.gens ∧ e.id.index ∉ s.free := by
  have h0 := h.nat e he
  have h1 := (h.alive e.id.index.toNat e.id.gen).1 ⟨e, he, by cases hh : e.id; rw [hh] at h0; dsimp only at h0 ⊢; congr; omega⟩
  have h2 := (List.getElem?_eq_some_iff.1 h1.1).1
  refine ⟨h0, by omega, h1.1, h1.2.1, ?_⟩
  have := h1.2.2
  rwa [Int.toNat_of_nonneg h0] at this
theorem StOk.entsLen (h : StOk c s) : s.ents.length ≤ s.gens.length := by
  have := up_length (l := s.ents.map (·.id.index)) (n := s.gens.length) (List.pairwise_map.2 h.up) (fun x hx => by
    obtain ⟨p, hp, rfl⟩ := List.mem_map.1 hx
    exact h.nat p hp) (fun x hx => by
    obtain ⟨p, hp, rfl⟩ := List.mem_map.1 hx
    exact (h.idx hp).2.1)
  rwa [List.length_map] at this
theorem StOk.freeLen (h : StOk c s) : s.free.length ≤ s.gens.length :=
  nodup_length h.nodup (fun x hx => (h.free x hx).1) (fun x hx => by
    obtain ⟨h0, g, hg, _⟩ := h.free x hx
    have := (List.getElem?_eq_some_iff.1 hg).1
    omega)
theorem StOk.small (h : StOk c s) : s.gens.length ≤ 1024 ∧ s.free.length ≤ 1024 ∧ s.ents.length ≤ 1024 := by
  have h1 := h.entsLen
  have h2 := h.freeLen
  have h3 := h.many
  have h4 := (right_facts h.conf).1
  omega
end
theorem noState_ok {c : DConf} (hr : confRight c = true) : StOk c noState := by
  have := (right_facts hr).1
  refine ⟨hr, ?_, ?_, ?_, List.nodup_nil, List.Pairwise.nil, ?_, ?_, ?_⟩
  · show ((0 : Nat) : Int) ≤ _
    omega
  · intro i g h; simp [noState] at h
  · intro k h; simp [noState] at h
  · intro e h; simp [noState] at h
  · intro i g; simp [noState]
  · intro e h; simp [noState] at h

theorem mem_insEnt {id : DID} {es : List DEnt} {e : DEnt} : e ∈ insEnt id es ↔ e = ⟨id, []⟩ ∨ e ∈ es := by
  unfold insEnt
  conv => rhs; rw [← List.takeWhile_append_dropWhile (p := belowE id.index) (l := es)]
  simp only [List.mem_append, List.mem_cons]
  constructor
  · rintro (h | h | h)
    · exact .inr (.inl h)
    · exact .inl h
    · exact .inr (.inr h)
  · rintro (h | h | h)
    · exact .inr (.inl h)
    · exact .inl h
    · exact .inr (.inr h)
theorem drop_above {i : Int} : ∀ {es : List DEnt}, es.Pairwise (fun a b => a.id.index < b.id.index) → ∀ e ∈ es.dropWhile (belowE i), i ≤ e.id.index
  | [], _, e, h => by simp at h
  | x :: r, hp, e, h => by
    have h2 := List.pairwise_cons.1 hp
    rw [List.dropWhile_cons] at h
    split at h
    · exact drop_above h2.2 e h
    · rename_i hx
      have hx : ¬ x.id.index < i := by simpa [belowE] using hx
      rcases List.mem_cons.1 h with rfl | h
      · omega
      · have := h2.1 e h; omega
theorem take_below {i : Int} : ∀ {es : List DEnt} {e : DEnt}, e ∈ es.takeWhile (belowE i) → e.id.index < i
  | [], e, h => by simp at h
  | x :: r, e, h => by
    rw [List.takeWhile_cons] at h
    split at h
    · rename_i hx
      rcases List.mem_cons.1 h with rfl | h
      · simpa [belowE] using hx
      · exact take_below h
    · simp at h
theorem up_insEnt {id : DID} {es : List DEnt} (hu : es.Pairwise fun a b => a.id.index < b.id.index) (hn : ∀ e ∈ es, e.id.index ≠ id.index) : (insEnt id es).Pairwise fun a b => a.id.index < b.id.index := by
  unfold insEnt
  rw [List.pairwise_append]
  have hd := drop_above (i := id.index) hu
  have hdm : ∀ e ∈ es.dropWhile (belowE id.index), e ∈ es := fun e h => (List.dropWhile_sublist _).mem h
  refine ⟨hu.sublist (List.takeWhile_sublist _), List.pairwise_cons.2 ⟨fun e he => ?_, hu.sublist (List.dropWhile_sublist _)⟩, fun a ha b hb => ?_⟩
  · have h1 := hd e he
    have h2 := hn e (hdm e he)
    show id.index < _
    omega
  · have h1 := take_below ha
    rcases List.mem_cons.1 hb with rfl | hb
    · exact h1
    · have := hd b hb; omega
theorem spawnS_ok {c : DConf} {s : DState} (h : StOk c s) : StOk c (spawnS c s).1 := by
  unfold spawnS
  split
  · rename_i k hk
    have hkm : k ∈ s.free := List.mem_of_getLast? hk
    obtain ⟨h0, g, hg, hg0, hg1⟩ := h.free k hkm
    have hgd : s.gens.getD k.toNat 0 = g := by rw [List.getD_eq_getElem?_getD, hg]; rfl
    have hfr : s.free = s.free.dropLast ++ [k] := by
      obtain ⟨l, hl⟩ := List.getLast?_eq_some_iff.1 hk
      rw [hl, List.dropLast_concat]
    have hnd := h.nodup
    rw [hfr, List.nodup_append] at hnd
    have hno : k ∉ s.free.dropLast := fun hm => hnd.2.2 k hm k (by simp) rfl
    have hkn : ∀ e ∈ s.ents, e.id.index ≠ k := fun e he hi => (h.idx he).2.2.2.2 (by rw [hi]; exact hkm)
    rw [hgd]
    refine ⟨h.conf, h.many, h.lim, fun j hj => h.free j ((List.dropLast_sublist _).mem hj), h.nodup.sublist (List.dropLast_sublist _), up_insEnt h.up hkn, fun e he => ?_, fun i g' => ?_, fun e he => ?_⟩
    · rcases mem_insEnt.1 he with rfl | he
      · exact h0
      · exact h.nat e he
    · dsimp only
      by_cases hik : (i : Int) = k
      · constructor
        · rintro ⟨e, he, hid⟩
          rcases mem_insEnt.1 he with rfl | he
          · have h1 : k = (i : Int) ∧ g = g' := by simpa using hid
            obtain ⟨h1, rfl⟩ := h1
            rw [h1, Int.toNat_natCast] at hg
            exact ⟨hg, hg1, by rw [← h1]; exact hno⟩
          · exact absurd (by rw [hid]; exact hik) (hkn e he)
        · rintro ⟨h1, h2, h3⟩
          refine ⟨_, mem_insEnt.2 (.inl rfl), ?_⟩
          rw [← hik, Int.toNat_natCast, h1] at hg
          obtain rfl := Option.some.inj hg
          rw [hik]
      · have hmem : (i : Int) ∉ s.free.dropLast ↔ (i : Int) ∉ s.free := by
          conv => rhs; rw [hfr]
          simp [hik]
        rw [hmem, ← h.alive i g']
        constructor
        · rintro ⟨e, he, hid⟩
          rcases mem_insEnt.1 he with rfl | he
          · have h1 : k = (i : Int) ∧ g = g' := by simpa using hid
            exact absurd h1.1.symm hik
          · exact ⟨e, he, hid⟩
        · rintro ⟨e, he, hid⟩
          exact ⟨e, mem_insEnt.2 (.inr he), hid⟩
    · rcases mem_insEnt.1 he with rfl | he
      · exact ⟨fun p hp => by simp at hp, List.Pairwise.nil⟩
      · exact h.parts e he
  · split
    · exact h
    · rename_i hfe hne
      have hm := h.many
      have hfree : s.free = [] := List.getLast?_eq_none_iff.1 hfe
      have hgl := (right_facts h.conf).1
      have hkn : ∀ e ∈ s.ents, e.id.index ≠ (s.gens.length : Int) := fun e he hi => by have := (h.idx he).2.1; omega
      have hold : ∀ (i : Nat) g', i < s.gens.length → ((s.gens ++ [0])[i]? = some g' ↔ s.gens[i]? = some g') := fun i g' hi => by rw [List.getElem?_append_left hi]
      refine ⟨h.conf, ?_, fun i g' hg => ?_, fun j hj => ?_, h.nodup, up_insEnt h.up hkn, fun e he => ?_, fun i g' => ?_, fun e he => ?_⟩
      · show (((s.gens ++ [0]).length : Nat) : Int) ≤ _
        rw [List.length_append, List.length_singleton]; omega
      · have hg : (s.gens ++ [0])[i]? = some g' := hg
        by_cases hi : i < s.gens.length
        · exact h.lim i g' ((hold i g' hi).1 hg)
        · rw [List.getElem?_append_right (by omega)] at hg
          have : g' = 0 := by
            rcases hz : i - s.gens.length with _ | n
            · rw [hz] at hg; simpa using hg.symm
            · rw [hz] at hg; simp at hg
          omega
      · have hj : j ∈ s.free := hj
        rw [hfree] at hj; simp at hj
      · rcases mem_insEnt.1 he with rfl | he
        · exact Int.natCast_nonneg _
        · exact h.nat e he
      · dsimp only
        by_cases hi : i = s.gens.length
        · subst hi
          have hg0 : (s.gens ++ [0])[s.gens.length]? = some 0 := by simp
          rw [hg0]
          constructor
          · rintro ⟨e, he, hid⟩
            rcases mem_insEnt.1 he with rfl | he
            · have h1 : (0 : Int) = g' := by simpa using hid
              refine ⟨by rw [h1], by omega, by rw [hfree]; simp⟩
            · exact absurd (by rw [hid]) (hkn e he)
          · rintro ⟨h1, _, _⟩
            obtain rfl := Option.some.inj h1
            exact ⟨_, mem_insEnt.2 (.inl rfl), rfl⟩
        · have hget : (s.gens ++ [0])[i]? = some g' ↔ s.gens[i]? = some g' := by
            by_cases hlt : i < s.gens.length
            · exact hold i g' hlt
            · rw [List.getElem?_eq_none (by simp; omega), List.getElem?_eq_none (by omega)]
          rw [hget, ← h.alive i g']
          constructor
          · rintro ⟨e, he, hid⟩
            rcases mem_insEnt.1 he with rfl | he
            · have h1 : (s.gens.length : Int) = (i : Int) ∧ 0 = g' := by simpa using hid
              omega
            · exact ⟨e, he, hid⟩
          · rintro ⟨e, he, hid⟩
            exact ⟨e, mem_insEnt.2 (.inr he), hid⟩
      · rcases mem_insEnt.1 he with rfl | he
        · exact ⟨fun p hp => by simp at hp, List.Pairwise.nil⟩
        · exact h.parts e he

theorem placeOf_some {es : List DEnt} {id : DID} {i : Nat} (h : placeOf es id = some i) : ∃ e, es[i]? = some e ∧ e.id = id := by
  unfold placeOf at h
  obtain ⟨hl, h1, _⟩ := List.findIdx?_eq_some_iff_getElem.1 h
  exact ⟨es[i], List.getElem?_eq_getElem hl, by simpa using h1⟩
theorem placeOf_none {es : List DEnt} {id : DID} (h : placeOf es id = none) : ∀ e ∈ es, e.id ≠ id := by
  unfold placeOf at h
  intro e he
  simpa using List.findIdx?_eq_none_iff.1 h e he
theorem mem_erase_up {es : List DEnt} (hu : es.Pairwise fun a b => a.id.index < b.id.index) {i : Nat} {x : DEnt} (hx : es[i]? = some x) {e : DEnt} : e ∈ es.eraseIdx i ↔ e ∈ es ∧ e.id.index ≠ x.id.index := by
  induction es generalizing i with
  | nil => simp at hx
  | cons y r ih =>
    have h2 := List.pairwise_cons.1 hu
    cases i with
    | zero =>
      obtain rfl : y = x := by simpa using hx
      rw [List.eraseIdx_cons_zero, List.mem_cons]
      constructor
      · intro h; have := h2.1 e h; exact ⟨.inr h, by omega⟩
      · rintro ⟨rfl | h, hn⟩
        · exact absurd rfl hn
        · exact h
    | succ i =>
      rw [List.getElem?_cons_succ] at hx
      rw [List.eraseIdx_cons_succ, List.mem_cons, List.mem_cons, ih h2.2 hx]
      have := h2.1 x (List.mem_of_getElem? hx)
      constructor
      · rintro (rfl | h)
        · exact ⟨.inl rfl, by omega⟩
        · exact ⟨.inr h.1, h.2⟩
      · rintro ⟨rfl | h, hn⟩
        · exact .inl rfl
        · exact .inr ⟨h, hn⟩
theorem despawnS_ok {c : DConf} {s : DState} {id : DID} (h : StOk c s) : StOk c (despawnS c s id).1 := by
  unfold despawnS
  split
  · exact h
  · rename_i i hi
    obtain ⟨x, hx, rfl⟩ := placeOf_some hi
    have hxm := List.mem_of_getElem? hx
    obtain ⟨n0, n1, hg, hlim, hnf⟩ := h.idx hxm
    have hgl := (right_facts h.conf).1
    have hg0 := (h.lim _ _ hg).1
    have hlen : x.id.index.toNat < s.gens.length := by omega
    have hset : ∀ (j : Nat), (s.gens.set x.id.index.toNat (x.id.gen + 1))[j]? = if x.id.index.toNat = j then some (x.id.gen + 1) else s.gens[j]? := fun j => by
      rw [List.getElem?_set]; split
      · first | rfl | rw [if_pos hlen]
      · rfl
    have hfree : ∀ k, k ∈ (if x.id.gen + 1 < c.gens then s.free ++ [x.id.index] else s.free) ↔ k ∈ s.free ∨ (k = x.id.index ∧ x.id.gen + 1 < c.gens) := fun k => by
      split
      · rename_i hlt; simp [hlt]
      · rename_i hlt; simp [hlt]
    refine ⟨h.conf, ?_, fun j g hj => ?_, fun k hk => ?_, ?_, h.up.sublist (List.eraseIdx_sublist _ _), fun e he => h.nat e ((mem_erase_up h.up hx).1 he).1, fun j g => ?_, fun e he => h.parts e ((mem_erase_up h.up hx).1 he).1⟩
    · show (((s.gens.set x.id.index.toNat (x.id.gen + 1)).length : Nat) : Int) ≤ _
      rw [List.length_set]; exact h.many
    · have hj : (s.gens.set x.id.index.toNat (x.id.gen + 1))[j]? = some g := hj
      rw [hset] at hj
      split at hj
      · obtain rfl := Option.some.inj hj; omega
      · exact h.lim j g hj
    · have hk : k ∈ (if x.id.gen + 1 < c.gens then s.free ++ [x.id.index] else s.free) := hk
      show 0 ≤ k ∧ ∃ g, (s.gens.set x.id.index.toNat (x.id.gen + 1))[k.toNat]? = some g ∧ 0 < g ∧ g < c.gens
      rcases (hfree k).1 hk with hk | ⟨rfl, hlt⟩
      · obtain ⟨k0, g, hkg, h1, h2⟩ := h.free k hk
        refine ⟨k0, g, ?_, h1, h2⟩
        rw [hset, if_neg (fun e => hnf (by have : x.id.index = k := by omega
                                           rw [this]; exact hk))]
        exact hkg
      · exact ⟨n0, x.id.gen + 1, by rw [hset, if_pos rfl], by omega, hlt⟩
    · show (if x.id.gen + 1 < c.gens then s.free ++ [x.id.index] else s.free).Nodup
      split
      · rw [List.nodup_append]
        exact ⟨h.nodup, by simp, fun a ha b hb => by rw [List.mem_singleton.1 hb]; intro e; exact hnf (e ▸ ha)⟩
      · exact h.nodup
    · show (∃ e ∈ s.ents.eraseIdx i, e.id = ⟨j, g⟩) ↔ (s.gens.set x.id.index.toNat (x.id.gen + 1))[j]? = some g ∧ g < c.gens ∧ (j : Int) ∉ (if x.id.gen + 1 < c.gens then s.free ++ [x.id.index] else s.free)
      rw [hset, hfree]
      by_cases hj : x.id.index.toNat = j
      · rw [if_pos hj]
        constructor
        · rintro ⟨e, he, hid⟩
          have := ((mem_erase_up h.up hx).1 he).2
          rw [hid] at this
          exact absurd (show (j : Int) = _ by omega) this
        · rintro ⟨h1, h2, h3⟩
          obtain rfl := Option.some.inj h1
          exact absurd (.inr ⟨by omega, h2⟩) h3
      · rw [if_neg hj]
        have hnj : (j : Int) ≠ x.id.index := by omega
        have : (s.gens[j]? = some g ∧ g < c.gens ∧ ¬ ((j : Int) ∈ s.free ∨ (j : Int) = x.id.index ∧ x.id.gen + 1 < c.gens)) ↔ (s.gens[j]? = some g ∧ g < c.gens ∧ (j : Int) ∉ s.free) := by
          simp [hnj]
        rw [this, ← h.alive j g]
        constructor
        · rintro ⟨e, he, hid⟩
          exact ⟨e, ((mem_erase_up h.up hx).1 he).1, hid⟩
        · rintro ⟨e, he, hid⟩
          exact ⟨e, (mem_erase_up h.up hx).2 ⟨he, by rw [hid]; exact hnj⟩, hid⟩

theorem drop_aboveP {k : Int} : ∀ {l : List DPart}, l.Pairwise (fun a b => a.comp < b.comp) → ∀ e ∈ l.dropWhile (belowP k), k ≤ e.comp
  | [], _, e, h => by simp at h
  | x :: r, hp, e, h => by
    have h2 := List.pairwise_cons.1 hp
    rw [List.dropWhile_cons] at h
    split at h
    · exact drop_aboveP h2.2 e h
    · rename_i hx
      have hx : ¬ x.comp < k := by simpa [belowP] using hx
      rcases List.mem_cons.1 h with rfl | h
      · omega
      · have := h2.1 e h; omega
theorem take_belowP {k : Int} : ∀ {l : List DPart} {e : DPart}, e ∈ l.takeWhile (belowP k) → e.comp < k
  | [], e, h => by simp at h
  | x :: r, e, h => by
    rw [List.takeWhile_cons] at h
    split at h
    · rename_i hx
      rcases List.mem_cons.1 h with rfl | h
      · simpa [belowP] using hx
      · exact take_belowP h
    · simp at h
theorem putPart_ok {c : DConf} {l : List DPart} {k : Int} {b : List UInt8} (h : PartsOk c l) (hs : compSize c k = some (b.length : Int)) : PartsOk c (putPart l k b) := by
  unfold putPart
  have hd := drop_aboveP (k := k) h.up
  have hm1 : ∀ e ∈ l.takeWhile (belowP k), e ∈ l := fun e he => (List.takeWhile_sublist _).mem he
  have hm2 : ∀ e ∈ (l.dropWhile (belowP k)).filter (fun p => decide (p.comp ≠ k)), e ∈ l.dropWhile (belowP k) ∧ e.comp ≠ k := fun e he => by simpa using he
  refine ⟨fun p hp => ?_, ?_⟩
  · rcases List.mem_append.1 hp with hp | hp
    · exact h.size p (hm1 p hp)
    · rcases List.mem_cons.1 hp with rfl | hp
      · exact hs
      · exact h.size p ((List.dropWhile_sublist _).mem (hm2 p hp).1)
  · rw [List.pairwise_append]
    refine ⟨h.up.sublist (List.takeWhile_sublist _), List.pairwise_cons.2 ⟨fun e he => ?_, (h.up.sublist (List.dropWhile_sublist _)).filter _⟩, fun x hx y hy => ?_⟩
    · have h1 := hm2 e he
      have h2 := hd e h1.1
      show k < e.comp
      have := h1.2
      omega
    · have h1 := take_belowP hx
      rcases List.mem_cons.1 hy with rfl | hy
      · exact h1
      · have := hd y (hm2 y hy).1; omega
theorem modify_ok {c : DConf} {s : DState} (h : StOk c s) (i : Nat) (f : List DPart → List DPart) (hf : ∀ l, PartsOk c l → PartsOk c (f l)) : StOk c ⟨s.gens, s.free, s.ents.modify i (fun e => ⟨e.id, f e.parts⟩)⟩ := by
  have hmap : (s.ents.modify i (fun e => (⟨e.id, f e.parts⟩ : DEnt))).map (·.id) = s.ents.map (·.id) := by
    apply List.ext_getElem?
    intro n
    rw [List.getElem?_map, List.getElem?_map, List.getElem?_modify]
    cases s.ents[n]? with
    | none => simp
    | some e => by_cases hn : i = n <;> simp [hn]
  have hmem : ∀ e ∈ s.ents.modify i (fun e => (⟨e.id, f e.parts⟩ : DEnt)), ∃ y ∈ s.ents, y.id = e.id ∧ (e.parts = y.parts ∨ e.parts = f y.parts) := by
    intro e he
    obtain ⟨n, hn⟩ := List.getElem?_of_mem he
    rw [List.getElem?_modify] at hn
    cases hy : s.ents[n]? with
    | none => rw [hy] at hn; simp at hn
    | some y =>
      rw [hy] at hn
      by_cases hi : i = n
      · subst hi
        obtain rfl : (⟨y.id, f y.parts⟩ : DEnt) = e := by simpa using hn
        exact ⟨y, List.mem_of_getElem? hy, rfl, .inr rfl⟩
      · obtain rfl : y = e := by simpa [hi] using hn
        exact ⟨y, List.mem_of_getElem? hy, rfl, .inl rfl⟩
  have hidx : ∀ P : DID → Prop, (∃ e ∈ s.ents.modify i (fun e => (⟨e.id, f e.parts⟩ : DEnt)), P e.id) ↔ (∃ e ∈ s.ents, P e.id) := fun P => by
    have : ∀ l : List DEnt, (∃ e ∈ l, P e.id) ↔ (∃ y ∈ l.map (·.id), P y) := fun l => ⟨fun ⟨e, he, hp⟩ => ⟨e.id, List.mem_map.2 ⟨e, he, rfl⟩, hp⟩, fun ⟨y, hy, hp⟩ => by
      obtain ⟨e, he, rfl⟩ := List.mem_map.1 hy
      exact ⟨e, he, hp⟩⟩
    rw [this, this, hmap]
  refine ⟨h.conf, h.many, h.lim, h.free, h.nodup, ?_, fun e he => ?_, fun j g => (hidx (· = ⟨j, g⟩)).trans (h.alive j g), fun e he => ?_⟩
  · have h1 : (s.ents.map (·.id)).Pairwise (fun a b => a.index < b.index) := List.pairwise_map.2 h.up
    rw [← hmap] at h1
    exact (List.pairwise_map (f := fun e : DEnt => e.id) (R := fun a b : DID => a.index < b.index)).1 h1
  · obtain ⟨y, hy, hid, _⟩ := hmem e he
    rw [← hid]; exact h.nat y hy
  · obtain ⟨y, hy, _, hp⟩ := hmem e he
    rcases hp with hp | hp <;> rw [hp]
    · exact h.parts y hy
    · exact hf _ (h.parts y hy)
theorem setS_ok {c : DConf} {s : DState} {id : DID} {k : Int} {b : List UInt8} (h : StOk c s) : StOk c (setS c s id k b).1 := by
  unfold setS
  split
  · exact h
  · split
    · exact h
    · split
      · rename_i n hn hb
        exact modify_ok h _ (fun l => putPart l k b) (fun l hl => putPart_ok hl (by rw [hn, hb]))
      · exact h
theorem removeS_ok {c : DConf} {s : DState} {id : DID} {k : Int} (h : StOk c s) : StOk c (removeS c s id k).1 := by
  unfold removeS
  split
  · exact h
  · split
    · exact h
    · split
      · exact h
      · rename_i j _
        exact modify_ok h _ (fun l => l.eraseIdx j) (fun l hl => ⟨fun p hp => hl.size p (List.mem_of_mem_eraseIdx hp), hl.up.sublist (List.eraseIdx_sublist _ _)⟩)
theorem goS_ok {c : DConf} {s : DState} {kind : Int} {id : DID} {k : Int} {b : List UInt8} (h : StOk c s) : StOk c (goS c s kind id k b).1 := by
  unfold goS
  split
  · exact despawnS_ok h
  · split
    · exact setS_ok h
    · split
      · exact removeS_ok h
      · exact spawnS_ok h
theorem oneS_ok {c : DConf} {s : DState} {a : List DCmd} {d : List DResult} {x : DCmd} (h : StOk c s) : StOk c (oneS c s a d x).1 := by
  unfold oneS
  split
  · exact h
  · split
    · exact h
    · exact goS_ok h
theorem runS_ok {c : DConf} {s : DState} {l : List DCmd} (h : StOk c s) : ∀ n, StOk c (runS c s l n).1
  | 0 => h
  | n + 1 => by
    have := runS_ok h (l := l) n
    unfold runS
    dsimp only
    split
    · exact oneS_ok this
    · exact this
theorem allS_ok {c : DConf} {s : DState} {l : List DCmd} (h : StOk c s) : StOk c (allS c s l).1 := runS_ok h _
theorem stateS_ok {c : DConf} {frames : List (List DCmd)} (hr : confRight c = true) : ∀ n, StOk c (stateS c frames n)
  | 0 => noState_ok hr
  | n + 1 => by
    have := stateS_ok (frames := frames) hr n
    unfold stateS
    split
    · exact allS_ok this
    · exact this
theorem runS_len {c : DConf} {s : DState} {l : List DCmd} : ∀ n, n ≤ l.length → (runS c s l n).2.length = n
  | 0, _ => rfl
  | n + 1, h => by
    have := runS_len (c := c) (s := s) (l := l) n (by omega)
    unfold runS
    dsimp only
    rw [List.getElem?_eq_getElem (by omega)]
    dsimp only
    rw [List.length_append, this]; rfl
end Go.Proofs.Yteljibjbndpncaa
namespace Go.Proofs.Yteljibjbndpncaa
open Go.RowKit

/-- What the arguments read. -/
def Lo (Q : Nat → Prop) (w : World) (b : Nat) : Prop := Q b ∧ b < w.heap.size
theorem Lo.inn {Q : Nat → Prop} {w : World} {n b : Nat} (h : Lo Q w b) : In Q w n b := .inl h
section
variable {α : Type} {r : Rep α} {e base : Nat} {Q : Nat → Prop} {w W W' : World} {v : Value} {xs : List α}
theorem val_lo {x : α} (h : r.val Q w v x) (hb : Below w.heap.size w W) : r.val (Lo Q w) W v x :=
  Rep.val_keep (fun b hq hl => ⟨⟨hq, hl.lt⟩, hb.block b hl.lt⟩) h
theorem val_lo_later {x : α} (h : r.val (Lo Q w) W v x) (hb : Below W.heap.size W W') : r.val (Lo Q w) W' v x :=
  Rep.val_keep (fun _ hq hl => ⟨hq, hb.block _ hl.lt⟩) h
theorem sl_lo {A : Option Addr} {c : Nat} (h : r.Sl Q w A c xs) (hb : Below w.heap.size w W) : r.Sl (Lo Q w) W A c xs :=
  h.keep fun b hq hl => ⟨⟨hq, hl.lt⟩, hb.block b hl.lt⟩
theorem acc_other {B i : Nat} {u : Value} (h : r.acc e base Q W v xs) (hq : ∀ b, Q b → b ≠ B) (hv : v.ownBlock ≠ some B) : r.acc e base Q (W.setCell ⟨B, i, none⟩ u) v xs :=
  Rep.acc_keep (fun b hb _ => Below.heap_setCell _ _ _ _ (fun e2 => by have e3 : b = B := e2; rcases hb with hb | hb; (· exact hq b hb e3); exact hv (e3 ▸ hb))) (fun _ h _ => h) h
end
theorem step_spread_in {α : Type} {r : Rep α} {e base : Nat} {Q Q' : Nat → Prop} {P : Program} {w : World} {ops : Array Oper} {o : Oper} {a : Act} {K : Act → World → Prop} {R : Exit → Act → World → Prop} {E : Prop} (hg : o.guard = none) (s x : Operand) (t : TypeId)
    (ho : o.op = .call { callee := .builtin .append, args := #[s, x], argTypes := #[t, t] })
    (z : Value) (size bytes : Nat) (ht : P.underlying t = some (.slice e)) (hi : (P.info? e).map (fun i => (i.zero, i.size, i.bytes)) = some (some z, size, bytes)) (hzs : z.cells.size = size) (hsz : 0 < size)
    (hr : r.size = size) (v : Value) (xs : List α) (hs : a.eval s = v) (h : r.acc e base Q w v xs) (u : Value) (ys : List α) (hx : a.eval x = u) (hy : r.list.val Q' w u ys)
    (hq : ∀ b, Q' b → IsC w b → Q b ∧ v.ownBlock ≠ some b)
    (h63 : xs.length + ys.length ≤ maxLen) (hbytes : (xs.length + ys.length) * bytes ≤ 140737488355328) (hbase : base ≤ w.heap.size)
    (H : ∀ v' w', r.acc e base Q w' v' (xs ++ ys) → w.grownBy w' v.ownBlock → (v'.ownBlock = v.ownBlock ∨ v'.ownBlock = some w.heap.size) → K (a.put o.dst v') w') :
    if Region.wanted o (yielded ops a.tmps) = true then Oper.wp P o a w K R else E := by
  have hw : Region.wanted o (yielded ops a.tmps) = true := by simp [Region.wanted, hg]
  rw [if_pos hw]
  obtain ⟨A, c, rfl, h1, h2, es, h3, h4⟩ := Rep.val_list hy
  obtain ⟨v', w', q1, q2, q3, q4⟩ := Rep.acc_more (P := P) (ty := o.type) (c := c) ht hi hzs hsz hr h rfl (Rep.row_keep (fun b hb hl => ⟨hq b hb hl, rfl⟩) h3)
    (fun hn => by obtain ⟨b, off, q1, _, _, q2⟩ := h4 hn; exact ⟨b, off, q1, q2⟩) h63 hbytes hbase
  unfold Oper.wp execOp
  simp only [ho, resolve, invoke, builtin, Sem.run_bind, Sem.run_pure, Result.andThen_ok, List.map_toArray, List.map_cons, List.map_nil, hs, hx, q1]
  exact H v' w' q2 q3 q4
theorem cell_same {W W' : World} {b o : Nat} {v : Value} (h : W'.heap[b]? = W.heap[b]?) (r : W.cell? ⟨b, o, none⟩ = some v) : W'.cell? ⟨b, o, none⟩ = some v := (World.cell?_of_block h).trans r
theorem rEnt_cell {Q : Nat → Prop} {w : World} {es : List Value} {x : DEnt} (h : rEnt.rd Q w es x) : ∃ A c, es = [.int .i64 x.id.index, .int .i64 x.id.gen, .slice A x.parts.length c] := by
  obtain ⟨A, c, h, _⟩ := rEnt_open h
  exact ⟨A, c, h⟩
/-- An entity of a slice of the call's own is written. -/
theorem acc_ent_set {e base : Nat} {Q : Nat → Prop} {w : World} {v : Value} {xs : List DEnt} {g i : Nat} {x : DEnt} {A : Option Addr} {c : Nat} (h : rEnt.acc e base Q w v xs) (hv : v.ownBlock = some g) (hi : i < xs.length)
    (h0 : (Lit.int .i64 x.id.index).wf = true) (h1 : (Lit.int .i64 x.id.gen).wf = true) (hs : rPart.Sl (fun b => Q b ∧ v.ownBlock ≠ some b) w A c x.parts) :
    rEnt.acc e base Q (((w.setCell ⟨g, i * 3, none⟩ (.int .i64 x.id.index)).setCell ⟨g, i * 3 + 1, none⟩ (.int .i64 x.id.gen)).setCell ⟨g, i * 3 + 2, none⟩ (.slice A x.parts.length c)) v (xs.set i x) := by
  obtain ⟨y, hy⟩ : ∃ y, xs[i]? = some y := ⟨_, List.getElem?_eq_getElem hi⟩
  have a1 := acc_cell (o := 0) (u := .int .i64 x.id.index) (x' := ⟨⟨x.id.index, y.id.gen⟩, y.parts⟩) h hv hy (by decide) (fun es he => by
    obtain ⟨A1, c1, rfl, _, f1, f2⟩ := rEnt_open he
    exact rEnt_mk (x := ⟨⟨x.id.index, y.id.gen⟩, y.parts⟩) h0 f1 f2)
  have y1 : (xs.set i ⟨⟨x.id.index, y.id.gen⟩, y.parts⟩)[i]? = some ⟨⟨x.id.index, y.id.gen⟩, y.parts⟩ := List.getElem?_set_self hi
  have a2 := acc_cell (o := 1) (u := .int .i64 x.id.gen) (x' := ⟨⟨x.id.index, x.id.gen⟩, y.parts⟩) a1 hv y1 (by decide) (fun es he => by
    obtain ⟨A1, c1, rfl, f0, _, f2⟩ := rEnt_open he
    exact rEnt_mk (x := ⟨⟨x.id.index, x.id.gen⟩, y.parts⟩) f0 h1 f2)
  rw [List.set_set] at a2
  have y2 : (xs.set i ⟨⟨x.id.index, x.id.gen⟩, y.parts⟩)[i]? = some ⟨⟨x.id.index, x.id.gen⟩, y.parts⟩ := List.getElem?_set_self hi
  have hs2 : rPart.Sl (fun b => Q b ∧ v.ownBlock ≠ some b) ((w.setCell ⟨g, i * rEnt.size + 0, none⟩ (.int .i64 x.id.index)).setCell ⟨g, i * rEnt.size + 1, none⟩ (.int .i64 x.id.gen)) A c x.parts :=
    hs.keep fun b hb _ => by
      have hne : b ≠ g := fun e => hb.2 (by rw [hv, e])
      exact ⟨hb, (Below.heap_setCell _ _ _ _ hne).trans (Below.heap_setCell _ _ _ _ hne)⟩
  have a3 := acc_cell (o := 2) (u := .slice A x.parts.length c) (x' := x) a2 hv y2 (by decide) (fun es he => by
    obtain ⟨A1, c1, rfl, f0, f1, _⟩ := rEnt_open he
    exact rEnt_mk (x := x) f0 f1 hs2)
  rw [List.set_set] at a3
  simpa [rEnt_size] using a3
end Go.Proofs.Yteljibjbndpncaa
namespace Go.Proofs.Yteljibjbndpncaa
open Go.RowKit

/-- 'copy' of elements of several cells onto a row. -/
theorem run_copy_rows {P : Program} (w : World) (dT sT ty elem : TypeId) (size g o dLen dCap : Nat) (a : Addr) (sLen sCap : Nat) (cur : Array Value) (t : TypeId) (cs : List Value)
    (hu : P.underlying dT = some (.slice elem)) (hs : (P.info? elem).map (·.size) = some size)
    (hg : w.heap[g]? = some (.cells cur t (0, 0))) (hn : cs.length = Nat.min sLen dLen * size)
    (hsrc : ∀ j v, cs[j]? = some v → w.cell? (a.add j) = some v) (hfit : o + cs.length ≤ cur.size) (h1 : ∀ v ∈ cs, v.oneCell' = true) :
    (Builtin.copy_ #[dT, sT] ty #[.slice (some ⟨g, o, none⟩) dLen dCap, .slice (some a) sLen sCap]).run P w =
      .ok (goInt (Nat.min sLen dLen)) (w.setRow g (cur.toList.take o ++ cs ++ cur.toList.drop (o + cs.length)).toArray) := by
  have hl := run_loadCells_list (P := P) w a cs hsrc
  have hst := run_storeCells_at P g o t cs 0 cur w hg (by simpa using hfit) h1
  cases hq : P.info? elem with
  | none => simp [hq] at hs
  | some i =>
    have hi : i.size = size := by simpa [hq] using hs
    simp [Builtin.copy_, run_underlying hu, Builtin.lenOf, Builtin.firstCells, sizeOf, typeInfo, hq, hi, ← hn, hl, hst]
section
variable {α : Type} {r : Rep α} {e base : Nat} {Q : Nat → Prop} {w w' : World} {v : Value} {xs ys : List α}
/-- A slice of the call's own, told by its row. -/
theorem acc_row (h : r.acc e base Q w v xs) (hn : 0 < xs.length) : ∃ g cap cur cells, v = .slice (some ⟨g, 0, none⟩) xs.length cap ∧ base ≤ g ∧ w.heap[g]? = some (.cells cur e (0, 0)) ∧ xs.length ≤ cap ∧ cap ≤ maxLen ∧ cur.size = cap * r.size ∧ cur.toList.take (xs.length * r.size) = cells ∧ r.row (fun b => Q b ∧ b ≠ g) w cells xs := by
  obtain ⟨cells, h1, h2⟩ := h
  rcases h1.2 with ⟨_, h0⟩ | ⟨g, cap, cur, rfl, hb, hg, h3, h4, h5, h6⟩
  · omega
  · exact ⟨g, cap, cur, cells, rfl, hb, hg, h3, h4, h5, h6, Rep.row_keep (fun b hq _ => ⟨⟨hq.1, fun e => hq.2 (by rw [e]; rfl)⟩, rfl⟩) h2⟩
theorem acc_cur {g n cap : Nat} (h : r.acc e base Q w (.slice (some ⟨g, 0, none⟩) n cap) xs) : ∃ cur : Array Value, base ≤ g ∧ w.heap[g]? = some (.cells cur e (0, 0)) ∧ cur.size = cap * r.size ∧ cap ≤ maxLen := by
  obtain ⟨cells, h1, _⟩ := h
  rcases h1.2 with ⟨h0, _⟩ | ⟨g2, cap2, cur2, he, hb, hg, h3, h4, h5, h6⟩
  · cases h0
  · cases he
    exact ⟨cur2, hb, hg, h5, h4⟩
/-- A row that reads as0 elements is a slice of the call's own. -/
theorem acc_of {g cap : Nat} {cur : Array Value} {cells : List Value} (hb : base ≤ g) (hg : w.heap[g]? = some (.cells cur e (0, 0))) (h3 : xs.length ≤ cap) (h4 : cap ≤ maxLen) (h5 : cur.size = cap * r.size)
    (h6 : cur.toList.take (xs.length * r.size) = cells) (h7 : r.row (fun b => Q b ∧ b ≠ g) w cells xs) : r.acc e base Q w (.slice (some ⟨g, 0, none⟩) xs.length cap) xs :=
  ⟨cells, ⟨Rep.row_len h7, .inr ⟨g, cap, cur, rfl, hb, hg, h3, h4, h5, h6⟩⟩, Rep.row_keep (fun b hq _ => ⟨⟨hq.1, fun e2 => hq.2 (by have := Option.some.inj e2; exact this.symm)⟩, rfl⟩) h7⟩
/-- A prefix. -/
theorem acc_prefix {g cap n i : Nat} (h : r.acc e base Q w (.slice (some ⟨g, 0, none⟩) n cap) xs) (hi : i ≤ xs.length) (hn : 0 < xs.length) : r.acc e base Q w (.slice (some ⟨g, 0, none⟩) i cap) (xs.take i) := by
  obtain ⟨g2, cap2, cur, cells, he, hb, hg, h3, h4, h5, h6, h7⟩ := acc_row h hn
  cases he
  have hl : (xs.take i).length = i := by rw [List.length_take]; omega
  have := acc_of (xs := xs.take i) (cells := cells.take (i * r.size)) hb hg (by omega) h4 h5 (by rw [hl, ← h6, List.take_take, Nat.min_eq_left (Nat.mul_le_mul_right _ hi)]) (Rep.row_take h7 i)
  rwa [hl] at this
theorem rowset_other {g b : Nat} {cur : Array Value} (h : b ≠ g) : (w.setRow g cur).heap[b]? = w.heap[b]? := by
  simp [World.setRow, Array.getElem?_modify, Ne.symm h]
theorem rowset_size {g : Nat} {cur : Array Value} : (w.setRow g cur).heap.size = w.heap.size := by simp [World.setRow]
/-- An append for which there is room. -/
theorem acc_room {P : Program} {t ty : TypeId} {size g n m c cap : Nat} (ht : P.underlying t = some (.slice e)) (hi : (P.info? e).map (·.size) = some size) (hr : r.size = size) (h : r.acc e base Q w (.slice (some ⟨g, 0, none⟩) n cap) xs)
    (hn : n = xs.length) (hm : m = ys.length) {es : List Value} (h3 : r.row (fun b => Q b ∧ b ≠ g) w es ys) {a : Addr} (h4 : ∀ j u, es[j]? = some u → w.cell? (a.add j) = some u) (hroom : n + m ≤ cap) :
    ∃ w', (Builtin.append_ #[t, t] ty #[.slice (some ⟨g, 0, none⟩) n cap, .slice (some a) m c]).run P w = .ok (.slice (some ⟨g, 0, none⟩) (n + m) cap) w' ∧ r.acc e base Q w' (.slice (some ⟨g, 0, none⟩) (n + m) cap) (xs ++ ys) ∧ w.grownBy w' (some g) := by
  subst hn hm
  obtain ⟨i, hi, hs⟩ := Option.map_eq_some_iff.1 hi
  obtain ⟨cells, h1, h2⟩ := h
  have hl : es.length = ys.length * size := by rw [Rep.row_len h3, hr]
  obtain ⟨w', q1, q2, q3⟩ := run_append_own_spare (P := P) w base t ty e i size ht hi hs g xs.length cap cells (hr ▸ h1) a ys.length c es hl h4 (Rep.row_one h3) hroom
  refine ⟨w', q1, ⟨cells ++ es, by rw [hr, List.length_append]; exact q2, ?_⟩, q3⟩
  have h5 := Rep.row_keep (Q' := fun b => Q b ∧ b ≠ g) (fun b hb _ => ⟨⟨hb.1, fun e => hb.2 (by rw [e]; rfl)⟩, rfl⟩) h2
  exact Rep.row_keep (fun b hb hl => ⟨⟨hb.1, fun e => hb.2 (by have := Option.some.inj e; exact this.symm)⟩, q3.block b hl.lt (fun e => hb.2 (Option.some.inj e))⟩) (Rep.row_append h5 h3)
/-- What is written behind the elements. -/
theorem acc_behind {g n cap : Nat} {cur : Array Value} (h : r.acc e base Q w (.slice (some ⟨g, 0, none⟩) n cap) xs) (hn : n = xs.length) {cur' : Array Value} (hg : w.heap[g]? = some (.cells cur e (0, 0))) (hs : cur'.size = cur.size)
    (ht : cur'.toList.take (n * r.size) = cur.toList.take (n * r.size)) : r.acc e base Q (w.setRow g cur') (.slice (some ⟨g, 0, none⟩) n cap) xs := by
  subst hn
  obtain ⟨cells, h1, h2⟩ := h
  rcases h1.2 with ⟨h0, _⟩ | ⟨g2, cap2, cur2, he, hb, hg2, h3, h4, h5, h6⟩
  · cases h0
  · cases he
    rw [hg] at hg2
    cases hg2
    refine acc_of (cells := cells) hb (setRow_heap w g cur cur' e (0, 0) hg) h3 h4 (hs.trans h5) (ht.trans h6) ?_
    exact Rep.row_keep (fun b hq _ => ⟨⟨hq.1, fun e => hq.2 (by rw [e]; rfl)⟩, rowset_other (fun e => hq.2 (by rw [e]; rfl))⟩) h2
end
theorem only_setRow {F : Nat → Prop} {X W : World} {g : Nat} {cur : Array Value} (h : Only F X W) (hg : F g) : Only F X (W.setRow g cur) :=
  ⟨h.os, h.tape, h.output, by rw [rowset_size]; exact h.size, fun b hl hf => (rowset_other (fun e => hf (by rw [e]; exact hg))).trans (h.block b hl hf)⟩
theorem only_grown {w w' : World} {g : Nat} (h : w.grownBy w' (some g)) : Only (fun b => b = g) w w' :=
  ⟨h.os, h.tape, h.output, h.size, fun b hl hf => h.block b hl fun e => hf (Option.some.inj e)⟩
theorem Only.drw' {F : Nat → Prop} {W W' : World} (h : Only F W.drew W') : Only F W W' := ⟨h.os, h.tape, h.output, h.size, h.block⟩
/-- 'clear' of one element. -/
theorem run_clear_one {P : Program} (w : World) (t ty e : TypeId) (z : Value) (zs : List Value) (g o c : Nat) (cur : Array Value) (T : TypeId) (hu : P.underlying t = some (.slice e)) (hz : ∀ w, (zeroValue e).run P w = .ok z w) (hzs : Builtin.zeroCells z.cells 1 = zs.toArray) (hg : w.heap[g]? = some (.cells cur T (0, 0)))
    (hfit : o + zs.length ≤ cur.size) (h1 : ∀ v ∈ zs, v.oneCell' = true) :
    (Builtin.clear_ #[t] ty #[.slice (some ⟨g, o, none⟩) 1 c]).run P w = .ok (.tuple #[]) (w.setRow g (cur.toList.take o ++ zs ++ cur.toList.drop (o + zs.length)).toArray) := by
  have hst := run_storeCells_at P g o T zs 0 cur w hg (by simpa using hfit) h1
  rw [Nat.add_zero] at hst
  simp [Builtin.clear_, run_underlying hu, hz, hzs, hst]
/-- A step of a drawn region: an append, a copy whose run is known. -/
theorem step_app_run {P : Program} {ops : Array Oper} {o : Oper} {a : Act} {w : World} {K : Act → World → Prop} {Q : Exit → Act → World → Prop} {E : Prop}
    (hg : o.guard = none) (d x : Operand) (dT sT : TypeId) (hop : o.op = Op.call { callee := Callee.builtin Builtin.append, args := #[d, x], argTypes := #[dT, sT] })
    (v u : Value) (hd : a.eval d = v) (hx : a.eval x = u) {v' : Value} {w' : World} (hr : (Builtin.append_ #[dT, sT] o.type #[v, u]).run P w = .ok v' w') (hK : K (a.put o.dst v') w') :
    if Region.wanted o (yielded ops a.tmps) = true then Oper.wp P o a w K Q else E := by
  have hw : Region.wanted o (yielded ops a.tmps) = true := by simp [Region.wanted, hg]
  rw [if_pos hw]
  unfold Oper.wp
  simp [execOp, hop, resolve, invoke, builtin, hd, hx, hr, Result.andThen]
  exact hK
theorem step_copy_run {P : Program} {ops : Array Oper} {o : Oper} {a : Act} {w : World} {K : Act → World → Prop} {Q : Exit → Act → World → Prop} {E : Prop}
    (hg : o.guard = none) (d x : Operand) (dT sT : TypeId) (hop : o.op = Op.call { callee := Callee.builtin Builtin.copy, args := #[d, x], argTypes := #[dT, sT] })
    (v u : Value) (hd : a.eval d = v) (hx : a.eval x = u) {v' : Value} {w' : World} (hr : (Builtin.copy_ #[dT, sT] o.type #[v, u]).run P w = .ok v' w') (hK : K (a.put o.dst v') w') :
    if Region.wanted o (yielded ops a.tmps) = true then Oper.wp P o a w K Q else E := by
  have hw : Region.wanted o (yielded ops a.tmps) = true := by simp [Region.wanted, hg]
  rw [if_pos hw]
  unfold Oper.wp
  simp [execOp, hop, resolve, invoke, builtin, hd, hx, hr, Result.andThen]
  exact hK
theorem wpList_copy_run {P : Program} (w : World) {ops : Array Oper} {rest : List Oper} {o : Oper} {a : Act} {Q : Exit → Act → World → Prop} (hgd : o.guard = none) (d s : Operand) (t t' : TypeId)
    (ho : o.op = .call { callee := .builtin .copy, args := #[d, s], argTypes := #[t, t'] }) (v u : Value) (hd : a.eval d = v) (hs : a.eval s = u) {v' : Value} {w' : World}
    (hr : (Builtin.copy_ #[t, t'] o.type #[v, u]).run P w = .ok v' w') (h : wpList P ops Q rest (a.put o.dst v') w') : wpList P ops Q (o :: rest) a w :=
  wpList_plain hgd fun _ hK => by
    unfold Oper.wp execOp
    simp only [ho, resolve, invoke, builtin, Sem.run_bind, Sem.run_pure, Result.andThen_ok, List.map_toArray, List.map_cons, List.map_nil, hd, hs, hr]
    exact hK _ _ h
theorem wpList_clear_run {P : Program} (w : World) {ops : Array Oper} {rest : List Oper} {o : Oper} {a : Act} {Q : Exit → Act → World → Prop} (hgd : o.guard = none) (s : Operand) (t : TypeId)
    (ho : o.op = .call { callee := .builtin .clear, args := #[s], argTypes := #[t] }) (v : Value) (hs : a.eval s = v) {v' : Value} {w' : World}
    (hr : (Builtin.clear_ #[t] o.type #[v]).run P w = .ok v' w') (h : wpList P ops Q rest (a.put o.dst v') w') : wpList P ops Q (o :: rest) a w :=
  wpList_plain hgd fun _ hK => by
    unfold Oper.wp execOp
    simp only [ho, resolve, invoke, builtin, Sem.run_bind, Sem.run_pure, Result.andThen_ok, List.map_toArray, List.map_cons, List.map_nil, hs, hr]
    exact hK _ _ h
end Go.Proofs.Yteljibjbndpncaa
