/- Texts on which the proofs stand: Frame, Structs. No condition is laid on any input. -/
import Derived.Test.YtghbfbohnoebiaaGreatSnG2
import Derived.Test.YtghbfbohnoebiaaGreatRows
import Derived.ProofKit
import Derived.OpenShut
import Derived.ShutString
import Derived.Below
namespace Go.Proofs.YtghbfbohnoebiaaGreat
open Go.ChangeShapes Go.WideShapes Go.ChangeAt Go.RowKit
open Go.ChangeMaps (open_string shut_string)

theorem own : ownKnob Tryz.prog.godebug = Option.none := by kernel_rfl
theorem laidOut : laidOutB Tryz.prog = true := by kernel_rfl

/-- The arguments read behind the call as0 they read before. -/
theorem trodAll_below {H : Type} {enc : TypeId × Value → H} {P : Program} (hl : laidOutB P = true) {W W' : World} (hb : Below W.heap.size W W') :
    ∀ {ts : List TypeId} {vs : List Value} {ds : List (DataW H)} {ps : List MemPlace}, (∀ t ∈ ts, P.readableRec t = true ∧ t < P.types.size) →
      DataW.TrodAll enc P W 0 (fun _ => true) true ts vs ds ps → DataW.TrodAll enc P W' 0 (fun b => decide (b < W.heap.size)) true ts vs ds ps
  | [], [], [], _, _, h => h
  | t :: ts, v :: vs, d :: ds, _, hr, h => by
    obtain ⟨p, q, h1, h2, rfl⟩ := h
    have k := hr t (by simp)
    have lt : ∀ x ∈ p, x.block < W.heap.size := by obtain ⟨m, hm⟩ := h1; exact DataW.trod_lt m _ _ _ hm
    exact ⟨p, q, Below.trod hl k.1 k.2 h1 hb lt, trodAll_below hl hb (fun t ht => hr t (by simp [ht])) h2, rfl⟩

theorem add_of_add (a : Addr) (i j : Nat) : (a.add i).add j = a.add (i + j) := by
  unfold Addr.add
  by_cases hi : i = 0 <;> by_cases hj : j = 0 <;> simp [hi, hj, Nat.add_assoc]

namespace Rep
variable {H : Type} {enc : TypeId × Value → H} {P : Program} {w : World}

/-- A type's reading as0 data is this word's. -/
def Of {α : Type} (r : Rep α) (P : Program) (t : TypeId) : Prop :=
  P.cellsOf t = r.size ∧ ∀ (H : Type) (enc : TypeId × Value → H) (w : World) (fuel : Nat) (cs : List Value) (x : DataW H × List MemPlace),
    DataW.trod enc P w 0 (fun _ => true) true fuel t cs = some x → ∃ y, r.rd (fun _ => True) w cs y

theorem of_int {k : IntKind} {t : TypeId} (ht : P.underlying t = some (.int k)) (hc : P.cellsOf t = 1) : (Rep.int k).Of P t :=
  ⟨hc, fun _ _ _ _ _ _ h => by obtain ⟨n, rfl, _, hw⟩ := DataW.trod_int ht h; exact ⟨n, rfl, hw⟩⟩
theorem of_byte {t : TypeId} (ht : P.underlying t = some (.int .u8)) (hc : P.cellsOf t = 1) : Rep.byte.Of P t :=
  ⟨hc, fun _ _ _ _ _ _ h => by
    obtain ⟨n, rfl, _, hw⟩ := DataW.trod_int ht h
    have hb : 0 ≤ n ∧ n ≤ 255 := by simpa [Lit.wf, IntKind.min, IntKind.max, IntKind.signed, IntKind.bits] using hw
    refine ⟨UInt8.ofNat n.toNat, ?_⟩
    show [Value.int .u8 n] = [.int .u8 _]
    congr 2
    have : (UInt8.ofNat n.toNat).toNat = n.toNat := by rw [UInt8.toNat_ofNat']; omega
    omega⟩
theorem row_of {α : Type} {r : Rep α} {w : World} {g : Nat → Option Value} : ∀ (n : Nat), (∀ i, i < n → ∃ es y, r.rd (fun _ => True) w es y ∧ ∀ j u, es[j]? = some u → g (i * r.size + j) = some u) →
    ∃ es xs, xs.length = n ∧ r.row (fun _ => True) w es xs ∧ ∀ j u, es[j]? = some u → g j = some u
  | 0, _ => ⟨[], [], rfl, rfl, fun j u h => by simp at h⟩
  | n + 1, h => by
    obtain ⟨es, xs, h1, h2, h3⟩ := row_of n (fun i hi => h i (by omega))
    obtain ⟨fs, y, h4, h5⟩ := h n (by omega)
    refine ⟨es ++ fs, xs ++ [y], by simp [h1], row_append h2 (row_one_elem h4), fun j u hj => ?_⟩
    have hl := row_len h2
    rw [h1] at hl
    by_cases hj' : j < es.length
    · rw [List.getElem?_append_left hj'] at hj; exact h3 j u hj
    · rw [List.getElem?_append_right (by omega)] at hj
      have := h5 _ u hj
      rwa [show n * r.size + (j - es.length) = j by omega] at this

theorem of_list {α : Type} {r : Rep α} {t e : TypeId} (ht : P.underlying t = some (.slice e)) (hc : P.cellsOf t = 1) (hs : 0 < r.size) (he : r.Of P e) : r.list.Of P t :=
  ⟨hc, fun H enc w fuel cs x h => by
    rcases DataW.trod_slice ht h with ⟨rfl, _⟩ | ⟨a, len, cap, elems, rest, n, rfl, rfl, _, _, h1, h2, h3, h4, _⟩
    · exact ⟨[], none, 0, [], rfl, Nat.le_refl _, Nat.zero_le _, rfl, fun h => absurd h (by simp)⟩
    · have hcell : ∀ i, i < len → ∃ es y, r.rd (fun _ => True) w es y ∧ ∀ j u, es[j]? = some u → w.cell? (a.add (i * r.size + j)) = some u := by
        intro i hi
        have h5 := h4 i hi
        rw [List.getElem?_eq_getElem (by omega)] at h5
        obtain ⟨es, h6, h7⟩ := Option.bind_eq_some_iff.1 h5
        obtain ⟨y, hy⟩ := he.2 H enc w n es _ h7
        refine ⟨es, y, hy, fun j u hj => ?_⟩
        unfold World.cells? at h6
        rw [if_pos (Nat.zero_le _), he.1] at h6
        have hjs : j < r.size := by have := (List.getElem?_eq_some_iff.1 hj).1; rw [r.len hy] at this; exact this
        have h8 := mapM_some_get h6 j j (by simp [hjs])
        rw [hj, add_of_add] at h8
        exact h8
      obtain ⟨es, xs, q1, q2, q3⟩ := row_of (g := fun j => w.cell? (a.add j)) len hcell
      subst q1
      refine ⟨xs, some a, cap, es, rfl, h1, h2, q2, fun hn => ?_⟩
      have h0 : 0 < es.length := by rw [row_len q2]; exact Nat.mul_pos hn hs
      have hc0 := q3 0 _ (List.getElem?_eq_getElem h0)
      have hsp : a.spot = none := by
        have := World.cell?_spot hc0
        simpa [Addr.add] using this
      obtain ⟨b, off, sp⟩ := a
      obtain rfl : sp = none := hsp
      refine ⟨b, off, rfl, trivial, ?_, fun j u hj => by have := q3 j u hj; rwa [Addr.add_lit] at this⟩
      unfold World.cell? at hc0
      rw [Addr.add_zero'] at hc0
      cases hh : w.heap[b]? with
      | none => simp [hh] at hc0
      | some o =>
        cases o with
        | cells c e f => exact ⟨c, e, f, hh⟩
        | _ => simp [hh] at hc0⟩

/-- An argument, opened. -/
theorem opens {α : Type} {r : Rep α} {P : Program} {t : TypeId} (hof : r.Of P t) {H : Type} {enc : TypeId × Value → H} {w : World} {base : Nat} {v : Value} {d : DataW H} {ps : List MemPlace}
    (hwr : ∀ (w : World) (base : Nat) (v : Value), Value.okWide P w .any base t v → v = r.wrap v.cells.toList) (hv : Value.okWide P w .any base t v) (h : DataW.Trod enc P w 0 (fun _ => true) true t v d ps) : ∃ y, r.val (fun _ => True) w v y := by
  obtain ⟨fuel, h⟩ := h
  obtain ⟨y, hy⟩ := hof.2 H enc w fuel _ _ h
  exact ⟨y, _, hwr w base v hv, hy⟩

theorem wrap_list {α : Type} {r : Rep α} {P : Program} {t e : TypeId} (ht : P.underlying t = some (.slice e)) : ∀ (w : World) (base : Nat) (v : Value), Value.okWide P w .any base t v → v = r.list.wrap v.cells.toList :=
  fun _ _ _ h => by obtain ⟨a, n, c, rfl⟩ := okWide_slice ht h; rfl
end Rep
end Go.Proofs.YtghbfbohnoebiaaGreat
namespace Go.Proofs.YtghbfbohnoebiaaGreat
open Go.ChangeShapes Go.WideShapes Go.ChangeAt Go.RowKit
namespace Rep

/-- Fields, one behind the other, from the offset o on. -/
def Fields {α : Type} (r : Rep α) (P : Program) (fs : List Field) (o : Nat) : Prop :=
  (∀ f ∈ fs, o ≤ f.offset) ∧ ∀ (H : Type) (enc : TypeId × Value → H) (w : World) (n : Nat) (cs : List Value), cs.length = r.size →
    (∀ f ∈ fs, ∃ x, DataW.trod enc P w 0 (fun _ => true) true n f.type ((cs.drop (f.offset - o)).take (P.cellsOf f.type)) = some x) → ∃ y, r.rd (fun _ => True) w cs y

theorem fields_one {α : Type} {r : Rep α} {P : Program} {f : Field} {o : Nat} (ho : f.offset = o) (h : r.Of P f.type) : r.Fields P [f] o :=
  ⟨(fun g hg => by
    have : g = f := by simpa using hg
    rw [this]; omega), fun H enc w n cs hl hf => by
    obtain ⟨x, hx⟩ := hf f (by simp)
    rw [ho, Nat.sub_self, List.drop_zero, h.1, ← hl, List.take_length] at hx
    exact h.2 H enc w n cs x hx⟩
theorem fields_cons {α β : Type} {r : Rep α} {s : Rep β} {P : Program} {f : Field} {fs : List Field} {o : Nat} (ho : f.offset = o) (h : r.Of P f.type) (hs : s.Fields P fs (o + r.size)) : (r.pair s).Fields P (f :: fs) o :=
  ⟨(fun g hg => by
    rcases List.mem_cons.1 hg with rfl | hg
    · omega
    · have := hs.1 g hg; omega), fun H enc w n cs hl hf => by
    have hl' : cs.length = r.size + s.size := hl
    obtain ⟨x, hx⟩ := hf f (by simp)
    rw [ho, Nat.sub_self, List.drop_zero, h.1] at hx
    obtain ⟨y, hy⟩ := h.2 H enc w n _ x hx
    obtain ⟨z, hz⟩ := hs.2 H enc w n (cs.drop r.size) (by rw [List.length_drop]; omega) (fun g hg => by
      obtain ⟨x', hx'⟩ := hf g (by simp [hg])
      refine ⟨x', ?_⟩
      have := hs.1 g hg
      rw [List.drop_drop, show r.size + (g.offset - (o + r.size)) = g.offset - o by omega]
      exact hx')
    exact ⟨(y, z), cs.take r.size, cs.drop r.size, (List.take_append_drop _ _).symm, hy, hz⟩⟩

theorem of_struct {α β : Type} {r : Rep α} {P : Program} {t : TypeId} {fs : Array Field} (f : β → α) (g : α → β) (hfg : ∀ x, f (g x) = x) (ht : P.underlying t = some (.struct fs)) (hc : P.cellsOf t = r.size) (h : r.Fields P fs.toList 0) : (r.iso f).Of P t :=
  ⟨hc, fun H enc w fuel cs x hx => by
    obtain ⟨xs, n, _, rfl, hl, hlen, hf⟩ := DataW.trod_struct ht hx
    obtain ⟨y, hy⟩ := h.2 H enc w n cs (by rw [hl, hc]) (fun fd hfd => by
      obtain ⟨i, hi, rfl⟩ := List.getElem_of_mem hfd
      have hi' : i < fs.size := by simpa using hi
      have := hf i fs[i] (by simp [hi'])
      refine ⟨xs[i]'(by omega), ?_⟩
      simp only [Nat.sub_zero, Array.getElem_toList]
      rw [this]
      simp)
    exact ⟨g y, by show r.rd _ _ _ (f (g y)); rw [hfg]; exact hy⟩⟩
end Rep
theorem of_Key : rKey.Of Tryz.prog 82 :=
  Rep.of_struct _ (fun x => ⟨x.1, x.2.1, x.2.2⟩) (fun _ => rfl) Tryz.underlying82 (by kernel_rfl) (Rep.fields_cons rfl (Rep.of_int Tryz.underlying3 (by kernel_rfl)) (Rep.fields_cons rfl (Rep.of_int Tryz.underlying80 (by kernel_rfl)) (Rep.fields_one rfl (Rep.of_int Tryz.underlying3 (by kernel_rfl)))))
theorem of_Stream : rStream.Of Tryz.prog 84 :=
  Rep.of_struct _ (fun x => ⟨x.1, x.2⟩) (fun _ => rfl) Tryz.underlying84 (by kernel_rfl) (Rep.fields_cons rfl of_Key (Rep.fields_one rfl (Rep.of_list Tryz.underlying71 (by kernel_rfl) (by decide) (Rep.of_byte Tryz.underlying5 (by kernel_rfl)))))
end Go.Proofs.YtghbfbohnoebiaaGreat
