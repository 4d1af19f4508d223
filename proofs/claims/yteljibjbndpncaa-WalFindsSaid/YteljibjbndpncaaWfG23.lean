/- Texts on which the proofs stand: WalLiveMath, WalFindsMath. No condition is laid on any input. -/
import Derived.Test.YteljibjbndpncaaWfG22
import Derived.Test.YteljibjbndpncaaWfScanScan
/- The page's example of a log: the plain law. -/
namespace Go.Proofs.Yteljibjbndpncaa
open Go.RowKit

def exConf : DConf := ⟨4, 4, 1, 1, []⟩
def ex1000 : List UInt8 := List.replicate 1000 0
def exSt : DiskSt := newSt (List.replicate 10 (zeros 512))
theorem exConf_right : confRight exConf = true := by decide +kernel
theorem ex_right : rightLog exSt exConf ⟨1, 0, 0, 0⟩ = true := by decide +kernel
/-- The power does not fail. -/
def Calm (s : DiskSt) (k : Nat) : Prop := s.off = false ∧ s.fuse = -1 ∧ s.safe.length = k
theorem atSt_calm {s : DiskSt} {k : Nat} {i : Int} (h : Calm s k) (h0 : 0 ≤ i) (h1 : i < k) : atSt s i = (s, 0) := by
  obtain ⟨g1, g2, g3⟩ := h
  unfold atSt
  rw [if_neg (by omega)]
  unfold burnSt
  rw [g1, g2]; rfl
theorem pieceSt_calm {s : DiskSt} {c : DConf} {x : LogSt} {i : Int} {p : List UInt8} {k : Nat} (h : Calm s k) (hr : confRight c = true) (hk : c.log + 2 ≤ k) (hp : placeB (x.tail + i) = true) : (pieceSt s c x i p).2 = 0 ∧ Calm (pieceSt s c x i p).1 k := by
  have hf := (right_facts hr).1
  obtain ⟨g1, g2, _⟩ := hf
  have m1 : 0 ≤ (x.tail + i) % c.log := Int.emod_nonneg _ (by omega)
  have m2 : (x.tail + i) % c.log < c.log := Int.emod_lt_of_pos _ (by omega)
  have hl : logOf c (x.tail + i) = 2 + (x.tail + i) % c.log := by unfold logOf; rw [hr, hp]; rfl
  unfold pieceSt writeSt
  rw [atSt_calm h (by omega) (by omega)]
  exact ⟨rfl, h⟩
theorem eachSt_calm {c : DConf} {x : LogSt} {k : Nat} (hr : confRight c = true) (hk : c.log + 2 ≤ k) : ∀ {ls : List (List UInt8)} {s : DiskSt} {j : Nat} (_ : Calm s k) (_ : ∀ i : Nat, i < j + ls.length → placeB (x.tail + i) = true), (eachSt c x s j ls).2 = 0 ∧ Calm (eachSt c x s j ls).1 k
  | [], s, j, h, _ => ⟨rfl, h⟩
  | p :: ps, s, j, h, hp => by
    have h1 := pieceSt_calm (i := (j : Int)) (p := p) h hr hk (hp j (by simp))
    unfold eachSt
    rw [if_pos h1.1]
    exact eachSt_calm hr hk h1.2 (fun i hi => hp i (by simp only [List.length_cons]; omega))
theorem ex_split (seq : Int) : (splitOf seq ex1000).length = 3 := by
  have h : needOf (ex1000.length : Int) = 3 := by unfold ex1000; rw [List.length_replicate]; rfl
  unfold splitOf
  rw [h, if_neg (by decide), List.length_map, List.length_range]; rfl
theorem ex_first : (appendSt exSt exConf ⟨1, 0, 0, 0⟩ ex1000).2 = (⟨1, 0, 3, 1⟩, 0) := by
  have hok : appendOk exConf ⟨1, 0, 0, 0⟩ ex1000 = true := by
    unfold appendOk
    dsimp only
    have hne : splitOf 0 ex1000 ≠ [] := fun e => by have := ex_split 0; rw [e] at this; cases this
    rw [ex_split, decide_eq_true hne]; decide +kernel
  have hc : Calm exSt 10 := ⟨rfl, rfl, by unfold exSt newSt; rw [List.length_replicate]⟩
  have he := eachSt_calm (x := ⟨1, 0, 0, 0⟩) (k := 10) exConf_right (by decide) (ls := splitOf 0 ex1000) (j := 0) hc (fun i hi => by
    rw [ex_split] at hi
    unfold placeB
    rw [decide_eq_true (by dsimp only; omega), decide_eq_true (by dsimp only; omega)]; rfl)
  unfold appendSt
  rw [if_pos hok, if_pos he.1, ex_split]; rfl
theorem ex_second (st : DiskSt) : appendSt st exConf ⟨1, 0, 3, 1⟩ ex1000 = (st, ⟨1, 0, 3, 1⟩, 14) := by
  have hok : appendOk exConf ⟨1, 0, 3, 1⟩ ex1000 = false := by
    unfold appendOk
    dsimp only
    rw [ex_split, decide_eq_false (show ¬ ((3 : Nat) : Int) ≤ roomOf exConf 0 3 by decide +kernel)]
    simp
  unfold appendSt
  rw [hok]; rfl
theorem ex_room : roomOf exConf 0 3 = 1 := by decide +kernel
end Go.Proofs.Yteljibjbndpncaa
/- What lies on a log's sectors, however often records were appended and the log was truncated: the plain law. -/
namespace Go.Proofs.Yteljibjbndpncaa
open Go.RowKit

theorem mod_ne {a b n : Int} (h1 : a < b) (h2 : b < a + n) : a % n ≠ b % n := by
  intro h
  have h3 : (b - a) % n = 0 := Int.emod_eq_emod_iff_emod_sub_eq_zero.1 h.symm
  rw [Int.emod_eq_of_lt (by omega) (by omega)] at h3
  omega
theorem cut_seal (x : DSeal) : cutTo (sealBytes x) 512 = sealBytes x := by
  have h := sealBytes_length x
  unfold cutTo
  rw [h, List.take_of_length_le (by omega)]; simp
theorem last_push {s : DiskSt} {i j : Int} {b : List UInt8} : lastSt (pushSt s i b) j = if j = i then b else lastSt s j := by
  unfold lastSt pushSt
  dsimp only
  by_cases h : j = i
  · rw [if_pos h, if_pos h]; simp
  · rw [if_neg h, if_neg h]
section
variable {c : DConf} {x : LogSt} {k : Nat}
theorem log_at (hr : confRight c = true) {q : Int} (hp : placeB q = true) : logOf c q = 2 + q % c.log := by unfold logOf; rw [hr, hp]; rfl
theorem place_in {q : Int} (h0 : 0 ≤ q) (h1 : q ≤ 281474976710656) : placeB q = true := by unfold placeB; rw [decide_eq_true h0, decide_eq_true h1]; rfl
theorem piece_last {s : DiskSt} {i : Int} {p : List UInt8} (h : Calm s k) (hr : confRight c = true) (hk : c.log + 2 ≤ k) (hp : placeB (x.tail + i) = true) (j : Int) :
    lastSt (pieceSt s c x i p).1 j = if j = 2 + (x.tail + i) % c.log then sealBytes ⟨x.epoch, x.tail + i, 1, p⟩ else lastSt s j := by
  have hf := (right_facts hr).1
  obtain ⟨g1, g2, _⟩ := hf
  have m1 : 0 ≤ (x.tail + i) % c.log := Int.emod_nonneg _ (by omega)
  have m2 : (x.tail + i) % c.log < c.log := Int.emod_lt_of_pos _ (by omega)
  unfold pieceSt writeSt
  rw [log_at hr hp, atSt_calm h (by omega) (by omega), if_pos rfl, last_push, cut_seal]
  rfl
/-- What the sectors hold behind pieces that were written. -/
theorem each_last (hr : confRight c = true) (hk : c.log + 2 ≤ k) : ∀ {ls : List (List UInt8)} {s : DiskSt} {j : Nat} (_ : Calm s k) (_ : ∀ i : Nat, i < j + ls.length → placeB (x.tail + i) = true) (_ : (ls.length : Int) ≤ c.log),
    (∀ (i : Nat) p, ls[i]? = some p → lastSt (eachSt c x s j ls).1 (2 + (x.tail + ((j + i : Nat) : Int)) % c.log) = sealBytes ⟨x.epoch, x.tail + ((j + i : Nat) : Int), 1, p⟩) ∧
    (∀ q : Int, (∀ i : Nat, i < ls.length → q ≠ 2 + (x.tail + ((j + i : Nat) : Int)) % c.log) → lastSt (eachSt c x s j ls).1 q = lastSt s q)
  | [], s, j, _, _, _ => ⟨fun i p h => by simp at h, fun q _ => rfl⟩
  | p :: ps, s, j, h, hp, hl => by
    simp only [List.length_cons] at hp hl
    have hpj := hp j (by omega)
    have h1 := pieceSt_calm (i := (j : Int)) (p := p) h hr hk hpj
    have hlast := piece_last (x := x) (i := (j : Int)) (p := p) h hr hk hpj
    have he : eachSt c x s j (p :: ps) = eachSt c x (pieceSt s c x j p).1 (j + 1) ps := by
      conv => lhs; unfold eachSt
      rw [if_pos h1.1]
    obtain ⟨r1, r2⟩ := each_last (ls := ps) (j := j + 1) hr hk h1.2 (fun i hi => hp i (by omega)) (by omega)
    rw [he]
    refine ⟨fun i q hq => ?_, fun q hq => ?_⟩
    · cases i with
      | zero =>
        rw [List.getElem?_cons_zero] at hq
        obtain rfl := Option.some.inj hq
        rw [Nat.add_zero, r2 _ (fun i hi => ?_), hlast]
        · exact if_pos rfl
        · have := mod_ne (a := x.tail + (j : Int)) (b := x.tail + ((j + 1 + i : Nat) : Int)) (n := c.log) (by omega) (by omega)
          intro he
          simp only [Nat.add_zero] at he
          omega
      | succ i =>
        rw [List.getElem?_cons_succ] at hq
        have := r1 i q hq
        rw [show j + 1 + i = j + (i + 1) by omega] at this
        exact this
    · rw [r2 q (fun i hi => by have := hq (i + 1) (by simp only [List.length_cons]; omega); rwa [show j + (i + 1) = j + 1 + i by omega] at this), hlast, if_neg (by have := hq 0 (by simp); simpa using this)]
end
/-- Records lie on a log's sectors, one behind the other. -/
def RecsAt (s : DiskSt) (c : DConf) (ep : Int) : Int → Int → List (List UInt8) → Int → Prop
  | lsn, _, [], e => lsn = e
  | lsn, seq, b :: r, e => (0 < b.length ∧ needOf b.length ≤ 1024 ∧ (frameGet b).2 = 0) ∧ (∀ (i : Nat) p, (splitOf seq b)[i]? = some p → lastSt s (2 + (lsn + (i : Int)) % c.log) = sealBytes ⟨ep, lsn + (i : Int), 1, p⟩) ∧ RecsAt s c ep (lsn + needOf b.length) (seq + 1) r e
theorem RecsAt.le {s : DiskSt} {c : DConf} {ep : Int} : ∀ {l : List (List UInt8)} {lsn seq e : Int}, RecsAt s c ep lsn seq l e → lsn ≤ e
  | [], _, _, _, h => Int.le_of_eq h
  | b :: _, _, _, _, h => by
    have h1 := RecsAt.le h.2.2
    have h2 := need_bounds (n := b.length)
    omega
theorem split_ix {seq : Int} {b : List UInt8} (hn : needOf b.length ≤ 1024) {i : Nat} {p : List UInt8} (h : (splitOf seq b)[i]? = some p) : (i : Int) < needOf b.length := by
  have := (List.getElem?_eq_some_iff.1 h).1
  have := split_len (seq := seq) hn
  omega
theorem RecsAt.keep {s s' : DiskSt} {c : DConf} {ep : Int} : ∀ {l : List (List UInt8)} {lsn seq e : Int}, (∀ q, lsn ≤ q → q < e → lastSt s' (2 + q % c.log) = lastSt s (2 + q % c.log)) → RecsAt s c ep lsn seq l e → RecsAt s' c ep lsn seq l e
  | [], _, _, _, _, h => h
  | b :: r, lsn, seq, e, hk, h => by
    obtain ⟨h1, h2, h3⟩ := h
    have hle := h3.le
    have hnb := need_bounds (n := b.length)
    exact ⟨h1, fun i p hp => by
      have hi := split_ix h1.2.1 hp
      rw [hk _ (by omega) (by omega)]; exact h2 i p hp, RecsAt.keep (fun q hq1 hq2 => hk q (by omega) hq2) h3⟩
theorem RecsAt.snoc {s : DiskSt} {c : DConf} {ep : Int} {b : List UInt8} (hb : 0 < b.length ∧ needOf b.length ≤ 1024 ∧ (frameGet b).2 = 0) : ∀ {l : List (List UInt8)} {lsn seq e : Int}, RecsAt s c ep lsn seq l e →
    (∀ (i : Nat) p, (splitOf (seq + (l.length : Int)) b)[i]? = some p → lastSt s (2 + (e + (i : Int)) % c.log) = sealBytes ⟨ep, e + (i : Int), 1, p⟩) → RecsAt s c ep lsn seq (l ++ [b]) (e + needOf b.length)
  | [], lsn, seq, e, h, hp => by
    have h' : lsn = e := h
    subst h'
    exact ⟨hb, fun i p hi => hp i p (by simpa using hi), rfl⟩
  | a :: r, lsn, seq, e, h, hp => ⟨h.1, h.2.1, RecsAt.snoc hb h.2.2 (fun i p hi => hp i p (by rw [List.length_cons]; rw [show seq + ((r.length + 1 : Nat) : Int) = seq + 1 + (r.length : Int) by omega]; exact hi))⟩
/-- A log of an epoch, and what was appended to it since it was truncated. -/
structure LogInv (s : DiskSt) (c : DConf) (x : LogSt) (first : Int) (want : List (List UInt8)) (k : Nat) : Prop where
  calm : Calm s k
  right : confRight c = true
  size : (k : Int) = 2 + c.log + c.pages
  ep : 0 ≤ x.epoch ∧ x.epoch ≤ 281474976710656
  head : 0 ≤ x.head
  room : x.tail - x.head ≤ c.log
  top : x.tail ≤ 281474976710656
  seq : x.seq = first + want.length
  one : 0 ≤ first ∧ x.seq ≤ 281474976710656
  old : ∀ r : Nat, (r : Int) < c.log → lastSt s (2 + (r : Int)) = zeros 512 ∨ ∃ q p, 0 ≤ q ∧ q < x.tail ∧ lastSt s (2 + (r : Int)) = sealBytes ⟨x.epoch, q, 1, p⟩
  recs : RecsAt s c x.epoch x.head first want x.tail
theorem LogInv.cut {s : DiskSt} {c : DConf} {x : LogSt} {first : Int} {want : List (List UInt8)} {k : Nat} (h : LogInv s c x first want k) : LogInv s c { x with head := x.tail } x.seq [] k := by
  have h1 := h.recs.le
  have h2 := h.head
  have h3 := (right_facts h.right).1.1
  have h4 := h.seq
  have h5 := h.one
  exact ⟨h.calm, h.right, h.size, h.ep, by dsimp only; omega, by dsimp only; omega, h.top, by simp, ⟨by omega, h.one.2⟩, h.old, rfl⟩
theorem LogInv.fail {s : DiskSt} {c : DConf} {x : LogSt} {b : List UInt8} (h : appendOk c x b = false) : appendSt s c x b = (s, x, 14) := by
  unfold appendSt; rw [h]; rfl
theorem LogInv.more {s : DiskSt} {c : DConf} {x : LogSt} {first : Int} {want : List (List UInt8)} {k : Nat} {b : List UInt8} (h : LogInv s c x first want k) (hok : appendOk c x b = true) (hb : 0 < b.length ∧ needOf b.length ≤ 1024 ∧ (frameGet b).2 = 0) :
    (appendSt s c x b).2.2 = 0 ∧ (appendSt s c x b).2.1.head = x.head ∧ (appendSt s c x b).2.1.epoch = x.epoch ∧ LogInv (appendSt s c x b).1 c (appendSt s c x b).2.1 first (want ++ [b]) k := by
  have hf := (right_facts h.right).1
  obtain ⟨g1, g2, g3, _⟩ := hf
  have hle := h.recs.le
  have hh := h.head
  have htop := h.top
  have hsl := split_len (seq := x.seq) hb.2.1
  have hnb := need_bounds (n := b.length)
  simp only [appendOk, Bool.and_eq_true, decide_eq_true_eq] at hok
  obtain ⟨o1, o2, o3, o4⟩ := hok
  have ht2 : x.tail + (splitOf x.seq b).length ≤ 281474976710656 := by simp [placeB] at o3; omega
  have hs2 : x.seq + 1 ≤ 281474976710656 := by simp [placeB] at o4; omega
  have hroom : ((splitOf x.seq b).length : Int) ≤ c.log - (x.tail - x.head) := by
    have hr := h.room
    have : roomOf c x.head x.tail = c.log - (x.tail - x.head) := by
      unfold roomOf
      rw [h.right, place_in hh (by omega), place_in (by omega) htop, decide_eq_true hle, decide_eq_true hr]; rfl
    omega
  have hpl : ∀ i : Nat, i < 0 + (splitOf x.seq b).length → placeB (x.tail + i) = true := fun i hi => place_in (by omega) (by omega)
  have hk : c.log + 2 ≤ (k : Int) := by have := h.size; omega
  have hk' : c.log + 2 ≤ k := hk
  have hc := eachSt_calm (x := x) (j := 0) h.right hk' h.calm hpl
  obtain ⟨l1, l2⟩ := each_last (x := x) (j := 0) h.right hk' h.calm hpl (by omega)
  have ha : appendSt s c x b = ((eachSt c x s 0 (splitOf x.seq b)).1, { x with tail := x.tail + (splitOf x.seq b).length, seq := x.seq + 1 }, 0) := by
    unfold appendSt
    rw [if_pos (by simp only [appendOk, Bool.and_eq_true, decide_eq_true_eq]; exact ⟨o1, o2, o3, o4⟩), if_pos hc.1]
  rw [ha]
  refine ⟨rfl, rfl, rfl, hc.2, h.right, h.size, h.ep, hh, by dsimp only; omega, by dsimp only; omega, by dsimp only; rw [h.seq, List.length_append]; simp; omega, ⟨h.one.1, hs2⟩, ?_, ?_⟩
  · intro r hr
    dsimp only
    by_cases hw : ∃ i : Nat, i < (splitOf x.seq b).length ∧ (2 + (r : Int)) = 2 + (x.tail + ((0 + i : Nat) : Int)) % c.log
    · obtain ⟨i, hi, he⟩ := hw
      right
      refine ⟨x.tail + ((0 + i : Nat) : Int), (splitOf x.seq b)[i], by omega, by omega, ?_⟩
      rw [he]; exact l1 i _ (List.getElem?_eq_getElem hi)
    · rw [l2 _ (fun i hi he => hw ⟨i, hi, he⟩)]
      rcases h.old r hr with ho | ⟨q, p, q1, q2, q3⟩
      · exact .inl ho
      · exact .inr ⟨q, p, q1, by omega, q3⟩
  · dsimp only
    rw [show x.tail + ((splitOf x.seq b).length : Int) = x.tail + needOf b.length by omega]
    refine RecsAt.snoc hb (RecsAt.keep (fun q q1 q2 => l2 _ (fun i hi he => ?_)) h.recs) (fun i p hi => ?_)
    · have := mod_ne (a := q) (b := x.tail + ((0 + i : Nat) : Int)) (n := c.log) (by omega) (by omega)
      omega
    · rw [← h.seq] at hi
      have := l1 i p hi
      rwa [Nat.zero_add] at this
theorem read_calm {k : Nat} : ∀ {is : List Int} {s : DiskSt}, Calm s k → (∀ i ∈ is, 0 ≤ i ∧ i < k) → (readAll s is).2 = (is.map (lastSt s), 0)
  | [], _, _, _ => rfl
  | i :: is, s, h, hi => by
    have h0 := hi i (by simp)
    have hr : readSt s i = ({ s with reads := wrap64 (s.reads + 1) }, lastSt s i, 0) := by unfold readSt; rw [atSt_calm h h0.1 h0.2]; rfl
    have ih := read_calm (s := { s with reads := wrap64 (s.reads + 1) }) h (fun j hj => hi j (List.mem_cons_of_mem _ hj))
    unfold readAll
    rw [hr, if_pos rfl]
    dsimp only
    rw [ih]
    rfl
/-- The sectors of a log. -/
def secsOf (s : DiskSt) (c : DConf) : List (List UInt8) := (List.range c.log.toNat).map fun r : Nat => lastSt s (2 + (r : Int))
theorem LogInv.load {s : DiskSt} {c : DConf} {x : LogSt} {first : Int} {want : List (List UInt8)} {k : Nat} (h : LogInv s c x first want k) : (loadSt s c).2 = (secsOf s c, 0) := by
  have hf := (right_facts h.right).1
  obtain ⟨g1, g2, g3, _⟩ := hf
  have hk := h.size
  have hfit : fitsB s c = true := by
    unfold fitsB sectorsOf
    rw [h.right, h.calm.2.2, hk]; simp
  have hix : logIdx c = (List.range c.log.toNat).map fun r => 2 + ((r : Nat) : Int) := by
    unfold logIdx
    refine List.map_congr_left fun r hr => ?_
    have hr2 := List.mem_range.1 hr
    rw [log_at h.right (place_in (by omega) (by omega)), Int.emod_eq_of_lt (by omega) (by omega)]
  have hall := read_calm (is := logIdx c) h.calm (fun i hi => by
    rw [hix] at hi
    obtain ⟨r, hr, rfl⟩ := List.mem_map.1 hi
    have := List.mem_range.1 hr
    constructor <;> omega)
  unfold loadSt
  rw [if_pos hfit, hall]
  dsimp only
  rw [if_pos rfl, hix, List.map_map]
  rfl
theorem secs_has {s : DiskSt} {c : DConf} {q : Int} (hr : confRight c = true) (h0 : 0 ≤ q) (h1 : q ≤ 281474976710656) :
    hasOf c (secsOf s c) q = match sealGet (lastSt s (2 + q % c.log)) with | some y => if y.kind = 1 ∧ y.no = q then some y else none | none => none := by
  have hf := (right_facts hr).1
  obtain ⟨g1, g2, g3, _⟩ := hf
  have m1 : 0 ≤ q % c.log := Int.emod_nonneg _ (by omega)
  have m2 : q % c.log < c.log := Int.emod_lt_of_pos _ (by omega)
  have hlen : ((secsOf s c).length : Int) = c.log := by unfold secsOf; rw [List.length_map, List.length_range]; omega
  have hget : (secsOf s c).getD (q % c.log).toNat [] = lastSt s (2 + q % c.log) := by
    unfold secsOf
    rw [List.getD_eq_getElem?_getD, List.getElem?_map, List.getElem?_range (by omega)]
    show lastSt s (2 + (((q % c.log).toNat : Nat) : Int)) = _
    rw [Int.toNat_of_nonneg m1]
  unfold hasOf
  rw [if_pos ⟨hr, hlen, h0, h1⟩, hget]
  rfl
theorem has_seal {s : DiskSt} {c : DConf} {ep q : Int} {p : List UInt8} (hr : confRight c = true) (he : 0 ≤ ep ∧ ep ≤ 281474976710656) (h0 : 0 ≤ q) (h1 : q ≤ 281474976710656) (hp : p.length ≤ 472)
    (hs : lastSt s (2 + q % c.log) = sealBytes ⟨ep, q, 1, p⟩) : hasOf c (secsOf s c) q = some ⟨ep, q, 1, p⟩ := by
  rw [secs_has hr h0 h1, hs, sealGet_put]
  have e : sealNorm ⟨ep, q, 1, p⟩ = ⟨ep, q, 1, p⟩ := by
    unfold sealNorm maxEpoch
    dsimp only
    rw [near_in he.1 he.2, near_in h0 h1, near_in (by decide) (by decide), List.take_of_length_le hp]
  rw [e]
  exact if_pos ⟨rfl, rfl⟩
theorem has_none {s : DiskSt} {c : DConf} {x : LogSt} {first : Int} {want : List (List UInt8)} {k : Nat} (h : LogInv s c x first want k) : hasOf c (secsOf s c) x.tail = none := by
  have hf := (right_facts h.right).1
  obtain ⟨g1, g2, g3, _⟩ := hf
  have hle := h.recs.le
  have hh := h.head
  have m1 : 0 ≤ x.tail % c.log := Int.emod_nonneg _ (by omega)
  have m2 : x.tail % c.log < c.log := Int.emod_lt_of_pos _ (by omega)
  rw [secs_has h.right (by omega) h.top]
  have ho := h.old (x.tail % c.log).toNat (by omega)
  rw [Int.toNat_of_nonneg m1] at ho
  rcases ho with ho | ⟨q, p, q1, q2, q3⟩
  · rw [ho]
    have hz : sealGet (zeros 512) = none ∨ sealGet (zeros 512) = some (sealRead (zeros 512)) := by unfold sealGet; split <;> simp
    have h0 : natAt (zeros 512) 20 1 = 0 := by decide +kernel
    rcases hz with hz | hz
    · rw [hz]
    · rw [hz]
      refine if_neg (fun hk => ?_)
      have h1 : ((natAt (zeros 512) 20 1 : Nat) : Int) = 1 := hk.1
      rw [h0] at h1
      exact absurd h1 (by decide)
  · rw [q3, sealGet_put]
    refine if_neg (fun hk => ?_)
    have hq : near q maxEpoch = x.tail := hk.2
    rw [near_in q1 (by have := h.top; unfold maxEpoch; omega)] at hq
    omega
theorem RecsAt.scan {s : DiskSt} {c : DConf} {ep : Int} (hr : confRight c = true) (he : 0 ≤ ep ∧ ep ≤ 281474976710656) : ∀ {l : List (List UInt8)} {lsn seq e : Int}, 0 ≤ lsn → e ≤ 281474976710656 → hasOf c (secsOf s c) e = none → RecsAt s c ep lsn seq l e → ScanOk c (secsOf s c) ep lsn seq l e
  | [], _, _, _, _, _, hn, h => by
    have h' : _ = _ := h
    subst h'
    exact ⟨rfl, hn⟩
  | b :: r, lsn, seq, e, h0, h1, hn, h => by
    obtain ⟨⟨b1, b2, b3⟩, h2, h3⟩ := h
    have hle := h3.le
    have hnb := need_bounds (n := b.length)
    refine ⟨⟨b1, b2, b3, fun i p hp => ?_⟩, RecsAt.scan hr he (by omega) h1 hn h3⟩
    have hi := split_ix b2 hp
    exact has_seal hr he (by omega) (by omega) (split_mem b1 p (List.mem_of_getElem? hp)).2 (h2 i p hp)
/-- What was appended is scanned. -/
theorem LogInv.scan {s : DiskSt} {c : DConf} {x : LogSt} {first : Int} {want : List (List UInt8)} {k : Nat} (h : LogInv s c x first want k) : ScanOk c (secsOf s c) x.epoch x.head first want x.tail :=
  RecsAt.scan h.right h.ep h.head h.top (has_none h) h.recs
/-- A new disk, an empty log. -/
theorem LogInv.start {s : DiskSt} {c : DConf} {k : Nat} {ep st : Int} (hc : Calm s k) (hr : confRight c = true) (hk : (k : Int) = 2 + c.log + c.pages) (hz : ∀ i : Int, 0 ≤ i → i < k → lastSt s i = zeros 512) (he : 0 ≤ ep ∧ ep ≤ 281474976710656) (hst : 0 ≤ st ∧ st ≤ 281474976710656) :
    LogInv s c ⟨ep, st, st, 5⟩ 5 [] k := by
  have hf := (right_facts hr).1
  obtain ⟨g1, g2, g3, _⟩ := hf
  exact ⟨hc, hr, hk, he, hst.1, by dsimp only; omega, hst.2, rfl, ⟨by decide, by show (5 : Int) ≤ 281474976710656; decide⟩, fun r hlt => .inl (hz _ (by omega) (by omega)), rfl⟩
end Go.Proofs.Yteljibjbndpncaa
