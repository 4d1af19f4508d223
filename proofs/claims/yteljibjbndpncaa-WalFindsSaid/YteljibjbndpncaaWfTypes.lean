/- The structs of package api as Lean structures: how they lie in cells. Printed by mkrep.py. No program is named here. -/
import Derived.Test.YteljibjbndpncaaWfCore
namespace Go.Proofs.Yteljibjbndpncaa
open Go.RowKit

/-- What is known of a slice in a cell. -/
def Rep.Sl {α : Type} (r : Rep α) (Q : Nat → Prop) (w : World) (A : Option Addr) (c : Nat) (xs : List α) : Prop := xs.length ≤ c ∧ c ≤ maxLen ∧ r.At Q w A xs
theorem Rep.Sl.val {α : Type} {r : Rep α} {Q : Nat → Prop} {w : World} {A : Option Addr} {c : Nat} {xs : List α} (h : r.Sl Q w A c xs) : r.list.val Q w (.slice A xs.length c) xs := Rep.list_val rfl h.1 h.2.1 h.2.2
theorem Rep.val_sl {α : Type} {r : Rep α} {Q : Nat → Prop} {w : World} {v : Value} {xs : List α} (h : r.list.val Q w v xs) : ∃ A c, v = .slice A xs.length c ∧ r.Sl Q w A c xs := by
  obtain ⟨A, c, rfl, h1, h2, h3⟩ := Rep.val_list h
  exact ⟨A, c, rfl, h1, h2, h3⟩
theorem Rep.Sl.keep {α : Type} {r : Rep α} {Q Q' : Nat → Prop} {w w' : World} {A : Option Addr} {c : Nat} {xs : List α} (hk : ∀ b, Q b → IsC w b → Q' b ∧ w'.heap[b]? = w.heap[b]?) (h : r.Sl Q w A c xs) : r.Sl Q' w' A c xs := ⟨h.1, h.2.1, h.2.2.keep hk⟩
theorem Rep.Sl.drewN {α : Type} {r : Rep α} {Q : Nat → Prop} {w : World} {A : Option Addr} {c : Nat} {xs : List α} (h : r.Sl Q w A c xs) (n : Nat) : r.Sl Q (w.drewN n) A c xs := ⟨h.1, h.2.1, h.2.2.drewN n⟩
theorem Rep.Sl.below {α : Type} {r : Rep α} {Q : Nat → Prop} {w w' : World} {A : Option Addr} {c : Nat} {xs : List α} {B : Nat} (h : r.Sl Q w A c xs) (hb : Below B w w') (hr : ∀ b, Q b → IsC w b → b < B) : r.Sl Q w' A c xs := ⟨h.1, h.2.1, h.2.2.below hb hr⟩
theorem Rep.sl_rd {α : Type} {r : Rep α} {Q : Nat → Prop} {w : World} {A : Option Addr} {c : Nat} {xs : List α} (h : r.Sl Q w A c xs) : r.list.rd Q w [.slice A xs.length c] xs := by
  obtain ⟨h1, h2, es, h3, h4⟩ := h
  exact ⟨A, c, es, rfl, h1, h2, h3, h4⟩
theorem Rep.rd_sl {α : Type} {r : Rep α} {Q : Nat → Prop} {w : World} {cs : List Value} {xs : List α} (h : r.list.rd Q w cs xs) : ∃ A c, cs = [.slice A xs.length c] ∧ r.Sl Q w A c xs := by
  obtain ⟨A, c, es, rfl, h1, h2, h3, h4⟩ := h
  exact ⟨A, c, rfl, h1, h2, es, h3, h4⟩

@[ext] structure DID where
  index : Int
  gen : Int
  deriving DecidableEq

def rID : Rep DID := ((Rep.int .i64).pair (Rep.int .i64)).iso fun x => (x.index, x.gen)
theorem rID_size : rID.size = 2 := rfl
theorem rID_open {Q : Nat → Prop} {w : World} {cs : List Value} {x : DID} (h : rID.rd Q w cs x) : cs = [.int .i64 x.index, .int .i64 x.gen] ∧ (Lit.int .i64 x.index).wf = true ∧ (Lit.int .i64 x.gen).wf = true := by
  obtain ⟨a0, b0, rfl, h0, g0⟩ := h
  obtain ⟨e0, w0⟩ := h0
  subst e0
  obtain ⟨e1, w1⟩ := g0
  subst e1
  exact ⟨rfl, w0, w1⟩
theorem rID_mk {Q : Nat → Prop} {w : World} {x : DID}  (f0 : (Lit.int .i64 x.index).wf = true) (f1 : (Lit.int .i64 x.gen).wf = true) : rID.rd Q w [.int .i64 x.index, .int .i64 x.gen] x := by
  exact ⟨_, _, rfl, ⟨rfl, f0⟩, ⟨rfl, f1⟩⟩
theorem rID_at {Q : Nat → Prop} {w : World} {A : Option Addr} {xs : List DID} (h : rID.At Q w A xs) {i : Nat} {x : DID} (hx : xs[i]? = some x) :
    ∃ (b off : Nat), A = some ⟨b, off, none⟩ ∧ IsC w b ∧ w.cell? ⟨b, off + i * 2, none⟩ = some (.int .i64 x.index) ∧ w.cell? ⟨b, off + i * 2 + 1, none⟩ = some (.int .i64 x.gen) ∧ (Lit.int .i64 x.index).wf = true ∧ (Lit.int .i64 x.gen).wf = true := by
  obtain ⟨b, off, es, h1, _, h2, h3, h4⟩ := h.get hx
  obtain ⟨e, f0, f1⟩ := rID_open h3
  subst e
  rw [rID_size] at h4
  exact ⟨b, off, h1, h2, h4 0 _ rfl, h4 1 _ rfl, f0, f1⟩
theorem rID_val {Q : Nat → Prop} {w : World} {v : Value} {x : DID} (h : rID.val Q w v x) : v = .agg #[.int .i64 x.index, .int .i64 x.gen] ∧ (Lit.int .i64 x.index).wf = true ∧ (Lit.int .i64 x.gen).wf = true := by
  obtain ⟨cs, rfl, h⟩ := h
  obtain ⟨e, f0, f1⟩ := rID_open h
  subst e
  exact ⟨rfl, f0, f1⟩
theorem rID_agg {Q : Nat → Prop} {w : World} {x : DID}  (f0 : (Lit.int .i64 x.index).wf = true) (f1 : (Lit.int .i64 x.gen).wf = true) : rID.val Q w (.agg #[.int .i64 x.index, .int .i64 x.gen]) x := ⟨_, rfl, rID_mk f0 f1⟩

@[ext] structure DPart where
  comp : Int
  data : List UInt8
  deriving DecidableEq

def rPart : Rep DPart := ((Rep.int .i64).pair Rep.byte.list).iso fun x => (x.comp, x.data)
theorem rPart_size : rPart.size = 2 := rfl
theorem rPart_open {Q : Nat → Prop} {w : World} {cs : List Value} {x : DPart} (h : rPart.rd Q w cs x) : ∃ (A_data : Option Addr) (c_data : Nat), cs = [.int .i64 x.comp, .slice A_data x.data.length c_data] ∧ (Lit.int .i64 x.comp).wf = true ∧ Rep.byte.Sl Q w A_data c_data x.data := by
  obtain ⟨a0, b0, rfl, h0, g0⟩ := h
  obtain ⟨e0, w0⟩ := h0
  subst e0
  obtain ⟨A1, c1, e1, w1⟩ := Rep.rd_sl g0
  subst e1
  exact ⟨A1, c1, rfl, w0, w1⟩
theorem rPart_mk {Q : Nat → Prop} {w : World} {x : DPart} {A_data : Option Addr} {c_data : Nat} (f0 : (Lit.int .i64 x.comp).wf = true) (f1 : Rep.byte.Sl Q w A_data c_data x.data) : rPart.rd Q w [.int .i64 x.comp, .slice A_data x.data.length c_data] x := by
  exact ⟨_, _, rfl, ⟨rfl, f0⟩, Rep.sl_rd f1⟩
theorem rPart_at {Q : Nat → Prop} {w : World} {A : Option Addr} {xs : List DPart} (h : rPart.At Q w A xs) {i : Nat} {x : DPart} (hx : xs[i]? = some x) :
    ∃ (b off : Nat) (A_data : Option Addr) (c_data : Nat), A = some ⟨b, off, none⟩ ∧ IsC w b ∧ w.cell? ⟨b, off + i * 2, none⟩ = some (.int .i64 x.comp) ∧ w.cell? ⟨b, off + i * 2 + 1, none⟩ = some (.slice A_data x.data.length c_data) ∧ (Lit.int .i64 x.comp).wf = true ∧ Rep.byte.Sl Q w A_data c_data x.data := by
  obtain ⟨b, off, es, h1, _, h2, h3, h4⟩ := h.get hx
  obtain ⟨A_data, c_data, e, f0, f1⟩ := rPart_open h3
  subst e
  rw [rPart_size] at h4
  exact ⟨b, off, A_data, c_data, h1, h2, h4 0 _ rfl, h4 1 _ rfl, f0, f1⟩
theorem rPart_val {Q : Nat → Prop} {w : World} {v : Value} {x : DPart} (h : rPart.val Q w v x) : ∃ (A_data : Option Addr) (c_data : Nat), v = .agg #[.int .i64 x.comp, .slice A_data x.data.length c_data] ∧ (Lit.int .i64 x.comp).wf = true ∧ Rep.byte.Sl Q w A_data c_data x.data := by
  obtain ⟨cs, rfl, h⟩ := h
  obtain ⟨A_data, c_data, e, f0, f1⟩ := rPart_open h
  subst e
  exact ⟨A_data, c_data, rfl, f0, f1⟩
theorem rPart_agg {Q : Nat → Prop} {w : World} {x : DPart} {A_data : Option Addr} {c_data : Nat} (f0 : (Lit.int .i64 x.comp).wf = true) (f1 : Rep.byte.Sl Q w A_data c_data x.data) : rPart.val Q w (.agg #[.int .i64 x.comp, .slice A_data x.data.length c_data]) x := ⟨_, rfl, rPart_mk f0 f1⟩

@[ext] structure DEnt where
  id : DID
  parts : List DPart
  deriving DecidableEq

def rEnt : Rep DEnt := (rID.pair rPart.list).iso fun x => (x.id, x.parts)
theorem rEnt_size : rEnt.size = 3 := rfl
theorem rEnt_open {Q : Nat → Prop} {w : World} {cs : List Value} {x : DEnt} (h : rEnt.rd Q w cs x) : ∃ (A_parts : Option Addr) (c_parts : Nat), cs = [.int .i64 x.id.index, .int .i64 x.id.gen, .slice A_parts x.parts.length c_parts] ∧ (Lit.int .i64 x.id.index).wf = true ∧ (Lit.int .i64 x.id.gen).wf = true ∧ rPart.Sl Q w A_parts c_parts x.parts := by
  obtain ⟨a0, b0, rfl, h0, g0⟩ := h
  obtain ⟨e0, w0_0, w0_1⟩ := rID_open h0
  subst e0
  obtain ⟨A1, c1, e1, w1⟩ := Rep.rd_sl g0
  subst e1
  exact ⟨A1, c1, rfl, w0_0, w0_1, w1⟩
theorem rEnt_mk {Q : Nat → Prop} {w : World} {x : DEnt} {A_parts : Option Addr} {c_parts : Nat} (f0 : (Lit.int .i64 x.id.index).wf = true) (f1 : (Lit.int .i64 x.id.gen).wf = true) (f2 : rPart.Sl Q w A_parts c_parts x.parts) : rEnt.rd Q w [.int .i64 x.id.index, .int .i64 x.id.gen, .slice A_parts x.parts.length c_parts] x := by
  exact ⟨_, _, rfl, rID_mk f0 f1, Rep.sl_rd f2⟩
theorem rEnt_at {Q : Nat → Prop} {w : World} {A : Option Addr} {xs : List DEnt} (h : rEnt.At Q w A xs) {i : Nat} {x : DEnt} (hx : xs[i]? = some x) :
    ∃ (b off : Nat) (A_parts : Option Addr) (c_parts : Nat), A = some ⟨b, off, none⟩ ∧ IsC w b ∧ w.cell? ⟨b, off + i * 3, none⟩ = some (.int .i64 x.id.index) ∧ w.cell? ⟨b, off + i * 3 + 1, none⟩ = some (.int .i64 x.id.gen) ∧ w.cell? ⟨b, off + i * 3 + 2, none⟩ = some (.slice A_parts x.parts.length c_parts) ∧ (Lit.int .i64 x.id.index).wf = true ∧ (Lit.int .i64 x.id.gen).wf = true ∧ rPart.Sl Q w A_parts c_parts x.parts := by
  obtain ⟨b, off, es, h1, _, h2, h3, h4⟩ := h.get hx
  obtain ⟨A_parts, c_parts, e, f0, f1, f2⟩ := rEnt_open h3
  subst e
  rw [rEnt_size] at h4
  exact ⟨b, off, A_parts, c_parts, h1, h2, h4 0 _ rfl, h4 1 _ rfl, h4 2 _ rfl, f0, f1, f2⟩
theorem rEnt_val {Q : Nat → Prop} {w : World} {v : Value} {x : DEnt} (h : rEnt.val Q w v x) : ∃ (A_parts : Option Addr) (c_parts : Nat), v = .agg #[.int .i64 x.id.index, .int .i64 x.id.gen, .slice A_parts x.parts.length c_parts] ∧ (Lit.int .i64 x.id.index).wf = true ∧ (Lit.int .i64 x.id.gen).wf = true ∧ rPart.Sl Q w A_parts c_parts x.parts := by
  obtain ⟨cs, rfl, h⟩ := h
  obtain ⟨A_parts, c_parts, e, f0, f1, f2⟩ := rEnt_open h
  subst e
  exact ⟨A_parts, c_parts, rfl, f0, f1, f2⟩
theorem rEnt_agg {Q : Nat → Prop} {w : World} {x : DEnt} {A_parts : Option Addr} {c_parts : Nat} (f0 : (Lit.int .i64 x.id.index).wf = true) (f1 : (Lit.int .i64 x.id.gen).wf = true) (f2 : rPart.Sl Q w A_parts c_parts x.parts) : rEnt.val Q w (.agg #[.int .i64 x.id.index, .int .i64 x.id.gen, .slice A_parts x.parts.length c_parts]) x := ⟨_, rfl, rEnt_mk f0 f1 f2⟩

@[ext] structure DState where
  gens : List Int
  free : List Int
  ents : List DEnt
  deriving DecidableEq

def rState : Rep DState := ((Rep.int .i64).list.pair ((Rep.int .i64).list.pair rEnt.list)).iso fun x => (x.gens, x.free, x.ents)
theorem rState_size : rState.size = 3 := rfl
theorem rState_open {Q : Nat → Prop} {w : World} {cs : List Value} {x : DState} (h : rState.rd Q w cs x) : ∃ (A_gens : Option Addr) (c_gens : Nat) (A_free : Option Addr) (c_free : Nat) (A_ents : Option Addr) (c_ents : Nat), cs = [.slice A_gens x.gens.length c_gens, .slice A_free x.free.length c_free, .slice A_ents x.ents.length c_ents] ∧ (Rep.int .i64).Sl Q w A_gens c_gens x.gens ∧ (Rep.int .i64).Sl Q w A_free c_free x.free ∧ rEnt.Sl Q w A_ents c_ents x.ents := by
  obtain ⟨a0, b0, rfl, h0, g0⟩ := h
  obtain ⟨A0, c0, e0, w0⟩ := Rep.rd_sl h0
  subst e0
  obtain ⟨a1, b1, rfl, h1, g1⟩ := g0
  obtain ⟨A1, c1, e1, w1⟩ := Rep.rd_sl h1
  subst e1
  obtain ⟨A2, c2, e2, w2⟩ := Rep.rd_sl g1
  subst e2
  exact ⟨A0, c0, A1, c1, A2, c2, rfl, w0, w1, w2⟩
theorem rState_mk {Q : Nat → Prop} {w : World} {x : DState} {A_gens : Option Addr} {c_gens : Nat} {A_free : Option Addr} {c_free : Nat} {A_ents : Option Addr} {c_ents : Nat} (f0 : (Rep.int .i64).Sl Q w A_gens c_gens x.gens) (f1 : (Rep.int .i64).Sl Q w A_free c_free x.free) (f2 : rEnt.Sl Q w A_ents c_ents x.ents) : rState.rd Q w [.slice A_gens x.gens.length c_gens, .slice A_free x.free.length c_free, .slice A_ents x.ents.length c_ents] x := by
  exact ⟨_, _, rfl, Rep.sl_rd f0, ⟨_, _, rfl, Rep.sl_rd f1, Rep.sl_rd f2⟩⟩
theorem rState_at {Q : Nat → Prop} {w : World} {A : Option Addr} {xs : List DState} (h : rState.At Q w A xs) {i : Nat} {x : DState} (hx : xs[i]? = some x) :
    ∃ (b off : Nat) (A_gens : Option Addr) (c_gens : Nat) (A_free : Option Addr) (c_free : Nat) (A_ents : Option Addr) (c_ents : Nat), A = some ⟨b, off, none⟩ ∧ IsC w b ∧ w.cell? ⟨b, off + i * 3, none⟩ = some (.slice A_gens x.gens.length c_gens) ∧ w.cell? ⟨b, off + i * 3 + 1, none⟩ = some (.slice A_free x.free.length c_free) ∧ w.cell? ⟨b, off + i * 3 + 2, none⟩ = some (.slice A_ents x.ents.length c_ents) ∧ (Rep.int .i64).Sl Q w A_gens c_gens x.gens ∧ (Rep.int .i64).Sl Q w A_free c_free x.free ∧ rEnt.Sl Q w A_ents c_ents x.ents := by
  obtain ⟨b, off, es, h1, _, h2, h3, h4⟩ := h.get hx
  obtain ⟨A_gens, c_gens, A_free, c_free, A_ents, c_ents, e, f0, f1, f2⟩ := rState_open h3
  subst e
  rw [rState_size] at h4
  exact ⟨b, off, A_gens, c_gens, A_free, c_free, A_ents, c_ents, h1, h2, h4 0 _ rfl, h4 1 _ rfl, h4 2 _ rfl, f0, f1, f2⟩
theorem rState_val {Q : Nat → Prop} {w : World} {v : Value} {x : DState} (h : rState.val Q w v x) : ∃ (A_gens : Option Addr) (c_gens : Nat) (A_free : Option Addr) (c_free : Nat) (A_ents : Option Addr) (c_ents : Nat), v = .agg #[.slice A_gens x.gens.length c_gens, .slice A_free x.free.length c_free, .slice A_ents x.ents.length c_ents] ∧ (Rep.int .i64).Sl Q w A_gens c_gens x.gens ∧ (Rep.int .i64).Sl Q w A_free c_free x.free ∧ rEnt.Sl Q w A_ents c_ents x.ents := by
  obtain ⟨cs, rfl, h⟩ := h
  obtain ⟨A_gens, c_gens, A_free, c_free, A_ents, c_ents, e, f0, f1, f2⟩ := rState_open h
  subst e
  exact ⟨A_gens, c_gens, A_free, c_free, A_ents, c_ents, rfl, f0, f1, f2⟩
theorem rState_agg {Q : Nat → Prop} {w : World} {x : DState} {A_gens : Option Addr} {c_gens : Nat} {A_free : Option Addr} {c_free : Nat} {A_ents : Option Addr} {c_ents : Nat} (f0 : (Rep.int .i64).Sl Q w A_gens c_gens x.gens) (f1 : (Rep.int .i64).Sl Q w A_free c_free x.free) (f2 : rEnt.Sl Q w A_ents c_ents x.ents) : rState.val Q w (.agg #[.slice A_gens x.gens.length c_gens, .slice A_free x.free.length c_free, .slice A_ents x.ents.length c_ents]) x := ⟨_, rfl, rState_mk f0 f1 f2⟩

@[ext] structure DTerm where
  kind : Int
  comp : Int
  data : List UInt8
  deriving DecidableEq

def rTerm : Rep DTerm := ((Rep.int .i64).pair ((Rep.int .i64).pair Rep.byte.list)).iso fun x => (x.kind, x.comp, x.data)
theorem rTerm_size : rTerm.size = 3 := rfl
theorem rTerm_open {Q : Nat → Prop} {w : World} {cs : List Value} {x : DTerm} (h : rTerm.rd Q w cs x) : ∃ (A_data : Option Addr) (c_data : Nat), cs = [.int .i64 x.kind, .int .i64 x.comp, .slice A_data x.data.length c_data] ∧ (Lit.int .i64 x.kind).wf = true ∧ (Lit.int .i64 x.comp).wf = true ∧ Rep.byte.Sl Q w A_data c_data x.data := by
  obtain ⟨a0, b0, rfl, h0, g0⟩ := h
  obtain ⟨e0, w0⟩ := h0
  subst e0
  obtain ⟨a1, b1, rfl, h1, g1⟩ := g0
  obtain ⟨e1, w1⟩ := h1
  subst e1
  obtain ⟨A2, c2, e2, w2⟩ := Rep.rd_sl g1
  subst e2
  exact ⟨A2, c2, rfl, w0, w1, w2⟩
theorem rTerm_mk {Q : Nat → Prop} {w : World} {x : DTerm} {A_data : Option Addr} {c_data : Nat} (f0 : (Lit.int .i64 x.kind).wf = true) (f1 : (Lit.int .i64 x.comp).wf = true) (f2 : Rep.byte.Sl Q w A_data c_data x.data) : rTerm.rd Q w [.int .i64 x.kind, .int .i64 x.comp, .slice A_data x.data.length c_data] x := by
  exact ⟨_, _, rfl, ⟨rfl, f0⟩, ⟨_, _, rfl, ⟨rfl, f1⟩, Rep.sl_rd f2⟩⟩
theorem rTerm_at {Q : Nat → Prop} {w : World} {A : Option Addr} {xs : List DTerm} (h : rTerm.At Q w A xs) {i : Nat} {x : DTerm} (hx : xs[i]? = some x) :
    ∃ (b off : Nat) (A_data : Option Addr) (c_data : Nat), A = some ⟨b, off, none⟩ ∧ IsC w b ∧ w.cell? ⟨b, off + i * 3, none⟩ = some (.int .i64 x.kind) ∧ w.cell? ⟨b, off + i * 3 + 1, none⟩ = some (.int .i64 x.comp) ∧ w.cell? ⟨b, off + i * 3 + 2, none⟩ = some (.slice A_data x.data.length c_data) ∧ (Lit.int .i64 x.kind).wf = true ∧ (Lit.int .i64 x.comp).wf = true ∧ Rep.byte.Sl Q w A_data c_data x.data := by
  obtain ⟨b, off, es, h1, _, h2, h3, h4⟩ := h.get hx
  obtain ⟨A_data, c_data, e, f0, f1, f2⟩ := rTerm_open h3
  subst e
  rw [rTerm_size] at h4
  exact ⟨b, off, A_data, c_data, h1, h2, h4 0 _ rfl, h4 1 _ rfl, h4 2 _ rfl, f0, f1, f2⟩
theorem rTerm_val {Q : Nat → Prop} {w : World} {v : Value} {x : DTerm} (h : rTerm.val Q w v x) : ∃ (A_data : Option Addr) (c_data : Nat), v = .agg #[.int .i64 x.kind, .int .i64 x.comp, .slice A_data x.data.length c_data] ∧ (Lit.int .i64 x.kind).wf = true ∧ (Lit.int .i64 x.comp).wf = true ∧ Rep.byte.Sl Q w A_data c_data x.data := by
  obtain ⟨cs, rfl, h⟩ := h
  obtain ⟨A_data, c_data, e, f0, f1, f2⟩ := rTerm_open h
  subst e
  exact ⟨A_data, c_data, rfl, f0, f1, f2⟩
theorem rTerm_agg {Q : Nat → Prop} {w : World} {x : DTerm} {A_data : Option Addr} {c_data : Nat} (f0 : (Lit.int .i64 x.kind).wf = true) (f1 : (Lit.int .i64 x.comp).wf = true) (f2 : Rep.byte.Sl Q w A_data c_data x.data) : rTerm.val Q w (.agg #[.int .i64 x.kind, .int .i64 x.comp, .slice A_data x.data.length c_data]) x := ⟨_, rfl, rTerm_mk f0 f1 f2⟩

@[ext] structure DComp where
  name : List UInt8
  size : Int
  deriving DecidableEq

def rComp : Rep DComp := (Rep.text.pair (Rep.int .i64)).iso fun x => (x.name, x.size)
theorem rComp_size : rComp.size = 2 := rfl
theorem rComp_open {Q : Nat → Prop} {w : World} {cs : List Value} {x : DComp} (h : rComp.rd Q w cs x) : cs = [.string ⟨x.name.toArray⟩, .int .i64 x.size] ∧ x.name.length ≤ maxLen ∧ (Lit.int .i64 x.size).wf = true := by
  obtain ⟨a0, b0, rfl, h0, g0⟩ := h
  obtain ⟨e0, w0⟩ := h0
  subst e0
  obtain ⟨e1, w1⟩ := g0
  subst e1
  exact ⟨rfl, w0, w1⟩
theorem rComp_mk {Q : Nat → Prop} {w : World} {x : DComp}  (f0 : x.name.length ≤ maxLen) (f1 : (Lit.int .i64 x.size).wf = true) : rComp.rd Q w [.string ⟨x.name.toArray⟩, .int .i64 x.size] x := by
  exact ⟨_, _, rfl, ⟨rfl, f0⟩, ⟨rfl, f1⟩⟩
theorem rComp_at {Q : Nat → Prop} {w : World} {A : Option Addr} {xs : List DComp} (h : rComp.At Q w A xs) {i : Nat} {x : DComp} (hx : xs[i]? = some x) :
    ∃ (b off : Nat), A = some ⟨b, off, none⟩ ∧ IsC w b ∧ w.cell? ⟨b, off + i * 2, none⟩ = some (.string ⟨x.name.toArray⟩) ∧ w.cell? ⟨b, off + i * 2 + 1, none⟩ = some (.int .i64 x.size) ∧ x.name.length ≤ maxLen ∧ (Lit.int .i64 x.size).wf = true := by
  obtain ⟨b, off, es, h1, _, h2, h3, h4⟩ := h.get hx
  obtain ⟨e, f0, f1⟩ := rComp_open h3
  subst e
  rw [rComp_size] at h4
  exact ⟨b, off, h1, h2, h4 0 _ rfl, h4 1 _ rfl, f0, f1⟩
theorem rComp_val {Q : Nat → Prop} {w : World} {v : Value} {x : DComp} (h : rComp.val Q w v x) : v = .agg #[.string ⟨x.name.toArray⟩, .int .i64 x.size] ∧ x.name.length ≤ maxLen ∧ (Lit.int .i64 x.size).wf = true := by
  obtain ⟨cs, rfl, h⟩ := h
  obtain ⟨e, f0, f1⟩ := rComp_open h
  subst e
  exact ⟨rfl, f0, f1⟩
theorem rComp_agg {Q : Nat → Prop} {w : World} {x : DComp}  (f0 : x.name.length ≤ maxLen) (f1 : (Lit.int .i64 x.size).wf = true) : rComp.val Q w (.agg #[.string ⟨x.name.toArray⟩, .int .i64 x.size]) x := ⟨_, rfl, rComp_mk f0 f1⟩

@[ext] structure DConf where
  log : Int
  pages : Int
  entities : Int
  gens : Int
  comps : List DComp
  deriving DecidableEq

def rConf : Rep DConf := ((Rep.int .i64).pair ((Rep.int .i64).pair ((Rep.int .i64).pair ((Rep.int .i64).pair rComp.list)))).iso fun x => (x.log, x.pages, x.entities, x.gens, x.comps)
theorem rConf_size : rConf.size = 5 := rfl
theorem rConf_open {Q : Nat → Prop} {w : World} {cs : List Value} {x : DConf} (h : rConf.rd Q w cs x) : ∃ (A_comps : Option Addr) (c_comps : Nat), cs = [.int .i64 x.log, .int .i64 x.pages, .int .i64 x.entities, .int .i64 x.gens, .slice A_comps x.comps.length c_comps] ∧ (Lit.int .i64 x.log).wf = true ∧ (Lit.int .i64 x.pages).wf = true ∧ (Lit.int .i64 x.entities).wf = true ∧ (Lit.int .i64 x.gens).wf = true ∧ rComp.Sl Q w A_comps c_comps x.comps := by
  obtain ⟨a0, b0, rfl, h0, g0⟩ := h
  obtain ⟨e0, w0⟩ := h0
  subst e0
  obtain ⟨a1, b1, rfl, h1, g1⟩ := g0
  obtain ⟨e1, w1⟩ := h1
  subst e1
  obtain ⟨a2, b2, rfl, h2, g2⟩ := g1
  obtain ⟨e2, w2⟩ := h2
  subst e2
  obtain ⟨a3, b3, rfl, h3, g3⟩ := g2
  obtain ⟨e3, w3⟩ := h3
  subst e3
  obtain ⟨A4, c4, e4, w4⟩ := Rep.rd_sl g3
  subst e4
  exact ⟨A4, c4, rfl, w0, w1, w2, w3, w4⟩
theorem rConf_mk {Q : Nat → Prop} {w : World} {x : DConf} {A_comps : Option Addr} {c_comps : Nat} (f0 : (Lit.int .i64 x.log).wf = true) (f1 : (Lit.int .i64 x.pages).wf = true) (f2 : (Lit.int .i64 x.entities).wf = true) (f3 : (Lit.int .i64 x.gens).wf = true) (f4 : rComp.Sl Q w A_comps c_comps x.comps) : rConf.rd Q w [.int .i64 x.log, .int .i64 x.pages, .int .i64 x.entities, .int .i64 x.gens, .slice A_comps x.comps.length c_comps] x := by
  exact ⟨_, _, rfl, ⟨rfl, f0⟩, ⟨_, _, rfl, ⟨rfl, f1⟩, ⟨_, _, rfl, ⟨rfl, f2⟩, ⟨_, _, rfl, ⟨rfl, f3⟩, Rep.sl_rd f4⟩⟩⟩⟩
theorem rConf_at {Q : Nat → Prop} {w : World} {A : Option Addr} {xs : List DConf} (h : rConf.At Q w A xs) {i : Nat} {x : DConf} (hx : xs[i]? = some x) :
    ∃ (b off : Nat) (A_comps : Option Addr) (c_comps : Nat), A = some ⟨b, off, none⟩ ∧ IsC w b ∧ w.cell? ⟨b, off + i * 5, none⟩ = some (.int .i64 x.log) ∧ w.cell? ⟨b, off + i * 5 + 1, none⟩ = some (.int .i64 x.pages) ∧ w.cell? ⟨b, off + i * 5 + 2, none⟩ = some (.int .i64 x.entities) ∧ w.cell? ⟨b, off + i * 5 + 3, none⟩ = some (.int .i64 x.gens) ∧ w.cell? ⟨b, off + i * 5 + 4, none⟩ = some (.slice A_comps x.comps.length c_comps) ∧ (Lit.int .i64 x.log).wf = true ∧ (Lit.int .i64 x.pages).wf = true ∧ (Lit.int .i64 x.entities).wf = true ∧ (Lit.int .i64 x.gens).wf = true ∧ rComp.Sl Q w A_comps c_comps x.comps := by
  obtain ⟨b, off, es, h1, _, h2, h3, h4⟩ := h.get hx
  obtain ⟨A_comps, c_comps, e, f0, f1, f2, f3, f4⟩ := rConf_open h3
  subst e
  rw [rConf_size] at h4
  exact ⟨b, off, A_comps, c_comps, h1, h2, h4 0 _ rfl, h4 1 _ rfl, h4 2 _ rfl, h4 3 _ rfl, h4 4 _ rfl, f0, f1, f2, f3, f4⟩
theorem rConf_val {Q : Nat → Prop} {w : World} {v : Value} {x : DConf} (h : rConf.val Q w v x) : ∃ (A_comps : Option Addr) (c_comps : Nat), v = .agg #[.int .i64 x.log, .int .i64 x.pages, .int .i64 x.entities, .int .i64 x.gens, .slice A_comps x.comps.length c_comps] ∧ (Lit.int .i64 x.log).wf = true ∧ (Lit.int .i64 x.pages).wf = true ∧ (Lit.int .i64 x.entities).wf = true ∧ (Lit.int .i64 x.gens).wf = true ∧ rComp.Sl Q w A_comps c_comps x.comps := by
  obtain ⟨cs, rfl, h⟩ := h
  obtain ⟨A_comps, c_comps, e, f0, f1, f2, f3, f4⟩ := rConf_open h
  subst e
  exact ⟨A_comps, c_comps, rfl, f0, f1, f2, f3, f4⟩
theorem rConf_agg {Q : Nat → Prop} {w : World} {x : DConf} {A_comps : Option Addr} {c_comps : Nat} (f0 : (Lit.int .i64 x.log).wf = true) (f1 : (Lit.int .i64 x.pages).wf = true) (f2 : (Lit.int .i64 x.entities).wf = true) (f3 : (Lit.int .i64 x.gens).wf = true) (f4 : rComp.Sl Q w A_comps c_comps x.comps) : rConf.val Q w (.agg #[.int .i64 x.log, .int .i64 x.pages, .int .i64 x.entities, .int .i64 x.gens, .slice A_comps x.comps.length c_comps]) x := ⟨_, rfl, rConf_mk f0 f1 f2 f3 f4⟩

@[ext] structure DKey where
  kind : Int
  sig : Int
  comp : Int
  deriving DecidableEq

def rKey : Rep DKey := ((Rep.int .i64).pair ((Rep.int .u64).pair (Rep.int .i64))).iso fun x => (x.kind, x.sig, x.comp)
theorem rKey_size : rKey.size = 3 := rfl
theorem rKey_open {Q : Nat → Prop} {w : World} {cs : List Value} {x : DKey} (h : rKey.rd Q w cs x) : cs = [.int .i64 x.kind, .int .u64 x.sig, .int .i64 x.comp] ∧ (Lit.int .i64 x.kind).wf = true ∧ (Lit.int .u64 x.sig).wf = true ∧ (Lit.int .i64 x.comp).wf = true := by
  obtain ⟨a0, b0, rfl, h0, g0⟩ := h
  obtain ⟨e0, w0⟩ := h0
  subst e0
  obtain ⟨a1, b1, rfl, h1, g1⟩ := g0
  obtain ⟨e1, w1⟩ := h1
  subst e1
  obtain ⟨e2, w2⟩ := g1
  subst e2
  exact ⟨rfl, w0, w1, w2⟩
theorem rKey_mk {Q : Nat → Prop} {w : World} {x : DKey}  (f0 : (Lit.int .i64 x.kind).wf = true) (f1 : (Lit.int .u64 x.sig).wf = true) (f2 : (Lit.int .i64 x.comp).wf = true) : rKey.rd Q w [.int .i64 x.kind, .int .u64 x.sig, .int .i64 x.comp] x := by
  exact ⟨_, _, rfl, ⟨rfl, f0⟩, ⟨_, _, rfl, ⟨rfl, f1⟩, ⟨rfl, f2⟩⟩⟩
theorem rKey_at {Q : Nat → Prop} {w : World} {A : Option Addr} {xs : List DKey} (h : rKey.At Q w A xs) {i : Nat} {x : DKey} (hx : xs[i]? = some x) :
    ∃ (b off : Nat), A = some ⟨b, off, none⟩ ∧ IsC w b ∧ w.cell? ⟨b, off + i * 3, none⟩ = some (.int .i64 x.kind) ∧ w.cell? ⟨b, off + i * 3 + 1, none⟩ = some (.int .u64 x.sig) ∧ w.cell? ⟨b, off + i * 3 + 2, none⟩ = some (.int .i64 x.comp) ∧ (Lit.int .i64 x.kind).wf = true ∧ (Lit.int .u64 x.sig).wf = true ∧ (Lit.int .i64 x.comp).wf = true := by
  obtain ⟨b, off, es, h1, _, h2, h3, h4⟩ := h.get hx
  obtain ⟨e, f0, f1, f2⟩ := rKey_open h3
  subst e
  rw [rKey_size] at h4
  exact ⟨b, off, h1, h2, h4 0 _ rfl, h4 1 _ rfl, h4 2 _ rfl, f0, f1, f2⟩
theorem rKey_val {Q : Nat → Prop} {w : World} {v : Value} {x : DKey} (h : rKey.val Q w v x) : v = .agg #[.int .i64 x.kind, .int .u64 x.sig, .int .i64 x.comp] ∧ (Lit.int .i64 x.kind).wf = true ∧ (Lit.int .u64 x.sig).wf = true ∧ (Lit.int .i64 x.comp).wf = true := by
  obtain ⟨cs, rfl, h⟩ := h
  obtain ⟨e, f0, f1, f2⟩ := rKey_open h
  subst e
  exact ⟨rfl, f0, f1, f2⟩
theorem rKey_agg {Q : Nat → Prop} {w : World} {x : DKey}  (f0 : (Lit.int .i64 x.kind).wf = true) (f1 : (Lit.int .u64 x.sig).wf = true) (f2 : (Lit.int .i64 x.comp).wf = true) : rKey.val Q w (.agg #[.int .i64 x.kind, .int .u64 x.sig, .int .i64 x.comp]) x := ⟨_, rfl, rKey_mk f0 f1 f2⟩

@[ext] structure DStream where
  key : DKey
  data : List UInt8
  deriving DecidableEq

def rStream : Rep DStream := (rKey.pair Rep.byte.list).iso fun x => (x.key, x.data)
theorem rStream_size : rStream.size = 4 := rfl
theorem rStream_open {Q : Nat → Prop} {w : World} {cs : List Value} {x : DStream} (h : rStream.rd Q w cs x) : ∃ (A_data : Option Addr) (c_data : Nat), cs = [.int .i64 x.key.kind, .int .u64 x.key.sig, .int .i64 x.key.comp, .slice A_data x.data.length c_data] ∧ (Lit.int .i64 x.key.kind).wf = true ∧ (Lit.int .u64 x.key.sig).wf = true ∧ (Lit.int .i64 x.key.comp).wf = true ∧ Rep.byte.Sl Q w A_data c_data x.data := by
  obtain ⟨a0, b0, rfl, h0, g0⟩ := h
  obtain ⟨e0, w0_0, w0_1, w0_2⟩ := rKey_open h0
  subst e0
  obtain ⟨A1, c1, e1, w1⟩ := Rep.rd_sl g0
  subst e1
  exact ⟨A1, c1, rfl, w0_0, w0_1, w0_2, w1⟩
theorem rStream_mk {Q : Nat → Prop} {w : World} {x : DStream} {A_data : Option Addr} {c_data : Nat} (f0 : (Lit.int .i64 x.key.kind).wf = true) (f1 : (Lit.int .u64 x.key.sig).wf = true) (f2 : (Lit.int .i64 x.key.comp).wf = true) (f3 : Rep.byte.Sl Q w A_data c_data x.data) : rStream.rd Q w [.int .i64 x.key.kind, .int .u64 x.key.sig, .int .i64 x.key.comp, .slice A_data x.data.length c_data] x := by
  exact ⟨_, _, rfl, rKey_mk f0 f1 f2, Rep.sl_rd f3⟩
theorem rStream_at {Q : Nat → Prop} {w : World} {A : Option Addr} {xs : List DStream} (h : rStream.At Q w A xs) {i : Nat} {x : DStream} (hx : xs[i]? = some x) :
    ∃ (b off : Nat) (A_data : Option Addr) (c_data : Nat), A = some ⟨b, off, none⟩ ∧ IsC w b ∧ w.cell? ⟨b, off + i * 4, none⟩ = some (.int .i64 x.key.kind) ∧ w.cell? ⟨b, off + i * 4 + 1, none⟩ = some (.int .u64 x.key.sig) ∧ w.cell? ⟨b, off + i * 4 + 2, none⟩ = some (.int .i64 x.key.comp) ∧ w.cell? ⟨b, off + i * 4 + 3, none⟩ = some (.slice A_data x.data.length c_data) ∧ (Lit.int .i64 x.key.kind).wf = true ∧ (Lit.int .u64 x.key.sig).wf = true ∧ (Lit.int .i64 x.key.comp).wf = true ∧ Rep.byte.Sl Q w A_data c_data x.data := by
  obtain ⟨b, off, es, h1, _, h2, h3, h4⟩ := h.get hx
  obtain ⟨A_data, c_data, e, f0, f1, f2, f3⟩ := rStream_open h3
  subst e
  rw [rStream_size] at h4
  exact ⟨b, off, A_data, c_data, h1, h2, h4 0 _ rfl, h4 1 _ rfl, h4 2 _ rfl, h4 3 _ rfl, f0, f1, f2, f3⟩
theorem rStream_val {Q : Nat → Prop} {w : World} {v : Value} {x : DStream} (h : rStream.val Q w v x) : ∃ (A_data : Option Addr) (c_data : Nat), v = .agg #[.int .i64 x.key.kind, .int .u64 x.key.sig, .int .i64 x.key.comp, .slice A_data x.data.length c_data] ∧ (Lit.int .i64 x.key.kind).wf = true ∧ (Lit.int .u64 x.key.sig).wf = true ∧ (Lit.int .i64 x.key.comp).wf = true ∧ Rep.byte.Sl Q w A_data c_data x.data := by
  obtain ⟨cs, rfl, h⟩ := h
  obtain ⟨A_data, c_data, e, f0, f1, f2, f3⟩ := rStream_open h
  subst e
  exact ⟨A_data, c_data, rfl, f0, f1, f2, f3⟩
theorem rStream_agg {Q : Nat → Prop} {w : World} {x : DStream} {A_data : Option Addr} {c_data : Nat} (f0 : (Lit.int .i64 x.key.kind).wf = true) (f1 : (Lit.int .u64 x.key.sig).wf = true) (f2 : (Lit.int .i64 x.key.comp).wf = true) (f3 : Rep.byte.Sl Q w A_data c_data x.data) : rStream.val Q w (.agg #[.int .i64 x.key.kind, .int .u64 x.key.sig, .int .i64 x.key.comp, .slice A_data x.data.length c_data]) x := ⟨_, rfl, rStream_mk f0 f1 f2 f3⟩

@[ext] structure DFlow where
  key : DKey
  data : List UInt8
  pages : List Int
  deriving DecidableEq

def rFlow : Rep DFlow := (rKey.pair (Rep.byte.list.pair (Rep.int .i64).list)).iso fun x => (x.key, x.data, x.pages)
theorem rFlow_size : rFlow.size = 5 := rfl
theorem rFlow_open {Q : Nat → Prop} {w : World} {cs : List Value} {x : DFlow} (h : rFlow.rd Q w cs x) : ∃ (A_data : Option Addr) (c_data : Nat) (A_pages : Option Addr) (c_pages : Nat), cs = [.int .i64 x.key.kind, .int .u64 x.key.sig, .int .i64 x.key.comp, .slice A_data x.data.length c_data, .slice A_pages x.pages.length c_pages] ∧ (Lit.int .i64 x.key.kind).wf = true ∧ (Lit.int .u64 x.key.sig).wf = true ∧ (Lit.int .i64 x.key.comp).wf = true ∧ Rep.byte.Sl Q w A_data c_data x.data ∧ (Rep.int .i64).Sl Q w A_pages c_pages x.pages := by
  obtain ⟨a0, b0, rfl, h0, g0⟩ := h
  obtain ⟨e0, w0_0, w0_1, w0_2⟩ := rKey_open h0
  subst e0
  obtain ⟨a1, b1, rfl, h1, g1⟩ := g0
  obtain ⟨A1, c1, e1, w1⟩ := Rep.rd_sl h1
  subst e1
  obtain ⟨A2, c2, e2, w2⟩ := Rep.rd_sl g1
  subst e2
  exact ⟨A1, c1, A2, c2, rfl, w0_0, w0_1, w0_2, w1, w2⟩
theorem rFlow_mk {Q : Nat → Prop} {w : World} {x : DFlow} {A_data : Option Addr} {c_data : Nat} {A_pages : Option Addr} {c_pages : Nat} (f0 : (Lit.int .i64 x.key.kind).wf = true) (f1 : (Lit.int .u64 x.key.sig).wf = true) (f2 : (Lit.int .i64 x.key.comp).wf = true) (f3 : Rep.byte.Sl Q w A_data c_data x.data) (f4 : (Rep.int .i64).Sl Q w A_pages c_pages x.pages) : rFlow.rd Q w [.int .i64 x.key.kind, .int .u64 x.key.sig, .int .i64 x.key.comp, .slice A_data x.data.length c_data, .slice A_pages x.pages.length c_pages] x := by
  exact ⟨_, _, rfl, rKey_mk f0 f1 f2, ⟨_, _, rfl, Rep.sl_rd f3, Rep.sl_rd f4⟩⟩
theorem rFlow_at {Q : Nat → Prop} {w : World} {A : Option Addr} {xs : List DFlow} (h : rFlow.At Q w A xs) {i : Nat} {x : DFlow} (hx : xs[i]? = some x) :
    ∃ (b off : Nat) (A_data : Option Addr) (c_data : Nat) (A_pages : Option Addr) (c_pages : Nat), A = some ⟨b, off, none⟩ ∧ IsC w b ∧ w.cell? ⟨b, off + i * 5, none⟩ = some (.int .i64 x.key.kind) ∧ w.cell? ⟨b, off + i * 5 + 1, none⟩ = some (.int .u64 x.key.sig) ∧ w.cell? ⟨b, off + i * 5 + 2, none⟩ = some (.int .i64 x.key.comp) ∧ w.cell? ⟨b, off + i * 5 + 3, none⟩ = some (.slice A_data x.data.length c_data) ∧ w.cell? ⟨b, off + i * 5 + 4, none⟩ = some (.slice A_pages x.pages.length c_pages) ∧ (Lit.int .i64 x.key.kind).wf = true ∧ (Lit.int .u64 x.key.sig).wf = true ∧ (Lit.int .i64 x.key.comp).wf = true ∧ Rep.byte.Sl Q w A_data c_data x.data ∧ (Rep.int .i64).Sl Q w A_pages c_pages x.pages := by
  obtain ⟨b, off, es, h1, _, h2, h3, h4⟩ := h.get hx
  obtain ⟨A_data, c_data, A_pages, c_pages, e, f0, f1, f2, f3, f4⟩ := rFlow_open h3
  subst e
  rw [rFlow_size] at h4
  exact ⟨b, off, A_data, c_data, A_pages, c_pages, h1, h2, h4 0 _ rfl, h4 1 _ rfl, h4 2 _ rfl, h4 3 _ rfl, h4 4 _ rfl, f0, f1, f2, f3, f4⟩
theorem rFlow_val {Q : Nat → Prop} {w : World} {v : Value} {x : DFlow} (h : rFlow.val Q w v x) : ∃ (A_data : Option Addr) (c_data : Nat) (A_pages : Option Addr) (c_pages : Nat), v = .agg #[.int .i64 x.key.kind, .int .u64 x.key.sig, .int .i64 x.key.comp, .slice A_data x.data.length c_data, .slice A_pages x.pages.length c_pages] ∧ (Lit.int .i64 x.key.kind).wf = true ∧ (Lit.int .u64 x.key.sig).wf = true ∧ (Lit.int .i64 x.key.comp).wf = true ∧ Rep.byte.Sl Q w A_data c_data x.data ∧ (Rep.int .i64).Sl Q w A_pages c_pages x.pages := by
  obtain ⟨cs, rfl, h⟩ := h
  obtain ⟨A_data, c_data, A_pages, c_pages, e, f0, f1, f2, f3, f4⟩ := rFlow_open h
  subst e
  exact ⟨A_data, c_data, A_pages, c_pages, rfl, f0, f1, f2, f3, f4⟩
theorem rFlow_agg {Q : Nat → Prop} {w : World} {x : DFlow} {A_data : Option Addr} {c_data : Nat} {A_pages : Option Addr} {c_pages : Nat} (f0 : (Lit.int .i64 x.key.kind).wf = true) (f1 : (Lit.int .u64 x.key.sig).wf = true) (f2 : (Lit.int .i64 x.key.comp).wf = true) (f3 : Rep.byte.Sl Q w A_data c_data x.data) (f4 : (Rep.int .i64).Sl Q w A_pages c_pages x.pages) : rFlow.val Q w (.agg #[.int .i64 x.key.kind, .int .u64 x.key.sig, .int .i64 x.key.comp, .slice A_data x.data.length c_data, .slice A_pages x.pages.length c_pages]) x := ⟨_, rfl, rFlow_mk f0 f1 f2 f3 f4⟩

@[ext] structure DEntry where
  key : DKey
  long : Int
  pages : List Int
  deriving DecidableEq

def rEntry : Rep DEntry := (rKey.pair ((Rep.int .i64).pair (Rep.int .i64).list)).iso fun x => (x.key, x.long, x.pages)
theorem rEntry_size : rEntry.size = 5 := rfl
theorem rEntry_open {Q : Nat → Prop} {w : World} {cs : List Value} {x : DEntry} (h : rEntry.rd Q w cs x) : ∃ (A_pages : Option Addr) (c_pages : Nat), cs = [.int .i64 x.key.kind, .int .u64 x.key.sig, .int .i64 x.key.comp, .int .i64 x.long, .slice A_pages x.pages.length c_pages] ∧ (Lit.int .i64 x.key.kind).wf = true ∧ (Lit.int .u64 x.key.sig).wf = true ∧ (Lit.int .i64 x.key.comp).wf = true ∧ (Lit.int .i64 x.long).wf = true ∧ (Rep.int .i64).Sl Q w A_pages c_pages x.pages := by
  obtain ⟨a0, b0, rfl, h0, g0⟩ := h
  obtain ⟨e0, w0_0, w0_1, w0_2⟩ := rKey_open h0
  subst e0
  obtain ⟨a1, b1, rfl, h1, g1⟩ := g0
  obtain ⟨e1, w1⟩ := h1
  subst e1
  obtain ⟨A2, c2, e2, w2⟩ := Rep.rd_sl g1
  subst e2
  exact ⟨A2, c2, rfl, w0_0, w0_1, w0_2, w1, w2⟩
theorem rEntry_mk {Q : Nat → Prop} {w : World} {x : DEntry} {A_pages : Option Addr} {c_pages : Nat} (f0 : (Lit.int .i64 x.key.kind).wf = true) (f1 : (Lit.int .u64 x.key.sig).wf = true) (f2 : (Lit.int .i64 x.key.comp).wf = true) (f3 : (Lit.int .i64 x.long).wf = true) (f4 : (Rep.int .i64).Sl Q w A_pages c_pages x.pages) : rEntry.rd Q w [.int .i64 x.key.kind, .int .u64 x.key.sig, .int .i64 x.key.comp, .int .i64 x.long, .slice A_pages x.pages.length c_pages] x := by
  exact ⟨_, _, rfl, rKey_mk f0 f1 f2, ⟨_, _, rfl, ⟨rfl, f3⟩, Rep.sl_rd f4⟩⟩
theorem rEntry_at {Q : Nat → Prop} {w : World} {A : Option Addr} {xs : List DEntry} (h : rEntry.At Q w A xs) {i : Nat} {x : DEntry} (hx : xs[i]? = some x) :
    ∃ (b off : Nat) (A_pages : Option Addr) (c_pages : Nat), A = some ⟨b, off, none⟩ ∧ IsC w b ∧ w.cell? ⟨b, off + i * 5, none⟩ = some (.int .i64 x.key.kind) ∧ w.cell? ⟨b, off + i * 5 + 1, none⟩ = some (.int .u64 x.key.sig) ∧ w.cell? ⟨b, off + i * 5 + 2, none⟩ = some (.int .i64 x.key.comp) ∧ w.cell? ⟨b, off + i * 5 + 3, none⟩ = some (.int .i64 x.long) ∧ w.cell? ⟨b, off + i * 5 + 4, none⟩ = some (.slice A_pages x.pages.length c_pages) ∧ (Lit.int .i64 x.key.kind).wf = true ∧ (Lit.int .u64 x.key.sig).wf = true ∧ (Lit.int .i64 x.key.comp).wf = true ∧ (Lit.int .i64 x.long).wf = true ∧ (Rep.int .i64).Sl Q w A_pages c_pages x.pages := by
  obtain ⟨b, off, es, h1, _, h2, h3, h4⟩ := h.get hx
  obtain ⟨A_pages, c_pages, e, f0, f1, f2, f3, f4⟩ := rEntry_open h3
  subst e
  rw [rEntry_size] at h4
  exact ⟨b, off, A_pages, c_pages, h1, h2, h4 0 _ rfl, h4 1 _ rfl, h4 2 _ rfl, h4 3 _ rfl, h4 4 _ rfl, f0, f1, f2, f3, f4⟩
theorem rEntry_val {Q : Nat → Prop} {w : World} {v : Value} {x : DEntry} (h : rEntry.val Q w v x) : ∃ (A_pages : Option Addr) (c_pages : Nat), v = .agg #[.int .i64 x.key.kind, .int .u64 x.key.sig, .int .i64 x.key.comp, .int .i64 x.long, .slice A_pages x.pages.length c_pages] ∧ (Lit.int .i64 x.key.kind).wf = true ∧ (Lit.int .u64 x.key.sig).wf = true ∧ (Lit.int .i64 x.key.comp).wf = true ∧ (Lit.int .i64 x.long).wf = true ∧ (Rep.int .i64).Sl Q w A_pages c_pages x.pages := by
  obtain ⟨cs, rfl, h⟩ := h
  obtain ⟨A_pages, c_pages, e, f0, f1, f2, f3, f4⟩ := rEntry_open h
  subst e
  exact ⟨A_pages, c_pages, rfl, f0, f1, f2, f3, f4⟩
theorem rEntry_agg {Q : Nat → Prop} {w : World} {x : DEntry} {A_pages : Option Addr} {c_pages : Nat} (f0 : (Lit.int .i64 x.key.kind).wf = true) (f1 : (Lit.int .u64 x.key.sig).wf = true) (f2 : (Lit.int .i64 x.key.comp).wf = true) (f3 : (Lit.int .i64 x.long).wf = true) (f4 : (Rep.int .i64).Sl Q w A_pages c_pages x.pages) : rEntry.val Q w (.agg #[.int .i64 x.key.kind, .int .u64 x.key.sig, .int .i64 x.key.comp, .int .i64 x.long, .slice A_pages x.pages.length c_pages]) x := ⟨_, rfl, rEntry_mk f0 f1 f2 f3 f4⟩

@[ext] structure DSuper where
  epoch : Int
  gen : Int
  log : Int
  pages : Int
  head : Int
  seq : Int
  long : Int
  dir : List Int
  deriving DecidableEq

def rSuper : Rep DSuper := ((Rep.int .i64).pair ((Rep.int .i64).pair ((Rep.int .i64).pair ((Rep.int .i64).pair ((Rep.int .i64).pair ((Rep.int .i64).pair ((Rep.int .i64).pair (Rep.int .i64).list))))))).iso fun x => (x.epoch, x.gen, x.log, x.pages, x.head, x.seq, x.long, x.dir)
theorem rSuper_size : rSuper.size = 8 := rfl
theorem rSuper_open {Q : Nat → Prop} {w : World} {cs : List Value} {x : DSuper} (h : rSuper.rd Q w cs x) : ∃ (A_dir : Option Addr) (c_dir : Nat), cs = [.int .i64 x.epoch, .int .i64 x.gen, .int .i64 x.log, .int .i64 x.pages, .int .i64 x.head, .int .i64 x.seq, .int .i64 x.long, .slice A_dir x.dir.length c_dir] ∧ (Lit.int .i64 x.epoch).wf = true ∧ (Lit.int .i64 x.gen).wf = true ∧ (Lit.int .i64 x.log).wf = true ∧ (Lit.int .i64 x.pages).wf = true ∧ (Lit.int .i64 x.head).wf = true ∧ (Lit.int .i64 x.seq).wf = true ∧ (Lit.int .i64 x.long).wf = true ∧ (Rep.int .i64).Sl Q w A_dir c_dir x.dir := by
  obtain ⟨a0, b0, rfl, h0, g0⟩ := h
  obtain ⟨e0, w0⟩ := h0
  subst e0
  obtain ⟨a1, b1, rfl, h1, g1⟩ := g0
  obtain ⟨e1, w1⟩ := h1
  subst e1
  obtain ⟨a2, b2, rfl, h2, g2⟩ := g1
  obtain ⟨e2, w2⟩ := h2
  subst e2
  obtain ⟨a3, b3, rfl, h3, g3⟩ := g2
  obtain ⟨e3, w3⟩ := h3
  subst e3
  obtain ⟨a4, b4, rfl, h4, g4⟩ := g3
  obtain ⟨e4, w4⟩ := h4
  subst e4
  obtain ⟨a5, b5, rfl, h5, g5⟩ := g4
  obtain ⟨e5, w5⟩ := h5
  subst e5
  obtain ⟨a6, b6, rfl, h6, g6⟩ := g5
  obtain ⟨e6, w6⟩ := h6
  subst e6
  obtain ⟨A7, c7, e7, w7⟩ := Rep.rd_sl g6
  subst e7
  exact ⟨A7, c7, rfl, w0, w1, w2, w3, w4, w5, w6, w7⟩
theorem rSuper_mk {Q : Nat → Prop} {w : World} {x : DSuper} {A_dir : Option Addr} {c_dir : Nat} (f0 : (Lit.int .i64 x.epoch).wf = true) (f1 : (Lit.int .i64 x.gen).wf = true) (f2 : (Lit.int .i64 x.log).wf = true) (f3 : (Lit.int .i64 x.pages).wf = true) (f4 : (Lit.int .i64 x.head).wf = true) (f5 : (Lit.int .i64 x.seq).wf = true) (f6 : (Lit.int .i64 x.long).wf = true) (f7 : (Rep.int .i64).Sl Q w A_dir c_dir x.dir) : rSuper.rd Q w [.int .i64 x.epoch, .int .i64 x.gen, .int .i64 x.log, .int .i64 x.pages, .int .i64 x.head, .int .i64 x.seq, .int .i64 x.long, .slice A_dir x.dir.length c_dir] x := by
  exact ⟨_, _, rfl, ⟨rfl, f0⟩, ⟨_, _, rfl, ⟨rfl, f1⟩, ⟨_, _, rfl, ⟨rfl, f2⟩, ⟨_, _, rfl, ⟨rfl, f3⟩, ⟨_, _, rfl, ⟨rfl, f4⟩, ⟨_, _, rfl, ⟨rfl, f5⟩, ⟨_, _, rfl, ⟨rfl, f6⟩, Rep.sl_rd f7⟩⟩⟩⟩⟩⟩⟩
theorem rSuper_at {Q : Nat → Prop} {w : World} {A : Option Addr} {xs : List DSuper} (h : rSuper.At Q w A xs) {i : Nat} {x : DSuper} (hx : xs[i]? = some x) :
    ∃ (b off : Nat) (A_dir : Option Addr) (c_dir : Nat), A = some ⟨b, off, none⟩ ∧ IsC w b ∧ w.cell? ⟨b, off + i * 8, none⟩ = some (.int .i64 x.epoch) ∧ w.cell? ⟨b, off + i * 8 + 1, none⟩ = some (.int .i64 x.gen) ∧ w.cell? ⟨b, off + i * 8 + 2, none⟩ = some (.int .i64 x.log) ∧ w.cell? ⟨b, off + i * 8 + 3, none⟩ = some (.int .i64 x.pages) ∧ w.cell? ⟨b, off + i * 8 + 4, none⟩ = some (.int .i64 x.head) ∧ w.cell? ⟨b, off + i * 8 + 5, none⟩ = some (.int .i64 x.seq) ∧ w.cell? ⟨b, off + i * 8 + 6, none⟩ = some (.int .i64 x.long) ∧ w.cell? ⟨b, off + i * 8 + 7, none⟩ = some (.slice A_dir x.dir.length c_dir) ∧ (Lit.int .i64 x.epoch).wf = true ∧ (Lit.int .i64 x.gen).wf = true ∧ (Lit.int .i64 x.log).wf = true ∧ (Lit.int .i64 x.pages).wf = true ∧ (Lit.int .i64 x.head).wf = true ∧ (Lit.int .i64 x.seq).wf = true ∧ (Lit.int .i64 x.long).wf = true ∧ (Rep.int .i64).Sl Q w A_dir c_dir x.dir := by
  obtain ⟨b, off, es, h1, _, h2, h3, h4⟩ := h.get hx
  obtain ⟨A_dir, c_dir, e, f0, f1, f2, f3, f4, f5, f6, f7⟩ := rSuper_open h3
  subst e
  rw [rSuper_size] at h4
  exact ⟨b, off, A_dir, c_dir, h1, h2, h4 0 _ rfl, h4 1 _ rfl, h4 2 _ rfl, h4 3 _ rfl, h4 4 _ rfl, h4 5 _ rfl, h4 6 _ rfl, h4 7 _ rfl, f0, f1, f2, f3, f4, f5, f6, f7⟩
theorem rSuper_val {Q : Nat → Prop} {w : World} {v : Value} {x : DSuper} (h : rSuper.val Q w v x) : ∃ (A_dir : Option Addr) (c_dir : Nat), v = .agg #[.int .i64 x.epoch, .int .i64 x.gen, .int .i64 x.log, .int .i64 x.pages, .int .i64 x.head, .int .i64 x.seq, .int .i64 x.long, .slice A_dir x.dir.length c_dir] ∧ (Lit.int .i64 x.epoch).wf = true ∧ (Lit.int .i64 x.gen).wf = true ∧ (Lit.int .i64 x.log).wf = true ∧ (Lit.int .i64 x.pages).wf = true ∧ (Lit.int .i64 x.head).wf = true ∧ (Lit.int .i64 x.seq).wf = true ∧ (Lit.int .i64 x.long).wf = true ∧ (Rep.int .i64).Sl Q w A_dir c_dir x.dir := by
  obtain ⟨cs, rfl, h⟩ := h
  obtain ⟨A_dir, c_dir, e, f0, f1, f2, f3, f4, f5, f6, f7⟩ := rSuper_open h
  subst e
  exact ⟨A_dir, c_dir, rfl, f0, f1, f2, f3, f4, f5, f6, f7⟩
theorem rSuper_agg {Q : Nat → Prop} {w : World} {x : DSuper} {A_dir : Option Addr} {c_dir : Nat} (f0 : (Lit.int .i64 x.epoch).wf = true) (f1 : (Lit.int .i64 x.gen).wf = true) (f2 : (Lit.int .i64 x.log).wf = true) (f3 : (Lit.int .i64 x.pages).wf = true) (f4 : (Lit.int .i64 x.head).wf = true) (f5 : (Lit.int .i64 x.seq).wf = true) (f6 : (Lit.int .i64 x.long).wf = true) (f7 : (Rep.int .i64).Sl Q w A_dir c_dir x.dir) : rSuper.val Q w (.agg #[.int .i64 x.epoch, .int .i64 x.gen, .int .i64 x.log, .int .i64 x.pages, .int .i64 x.head, .int .i64 x.seq, .int .i64 x.long, .slice A_dir x.dir.length c_dir]) x := ⟨_, rfl, rSuper_mk f0 f1 f2 f3 f4 f5 f6 f7⟩

@[ext] structure DSeal where
  epoch : Int
  no : Int
  kind : Int
  body : List UInt8
  deriving DecidableEq

def rSeal : Rep DSeal := ((Rep.int .i64).pair ((Rep.int .i64).pair ((Rep.int .i64).pair Rep.byte.list))).iso fun x => (x.epoch, x.no, x.kind, x.body)
theorem rSeal_size : rSeal.size = 4 := rfl
theorem rSeal_open {Q : Nat → Prop} {w : World} {cs : List Value} {x : DSeal} (h : rSeal.rd Q w cs x) : ∃ (A_body : Option Addr) (c_body : Nat), cs = [.int .i64 x.epoch, .int .i64 x.no, .int .i64 x.kind, .slice A_body x.body.length c_body] ∧ (Lit.int .i64 x.epoch).wf = true ∧ (Lit.int .i64 x.no).wf = true ∧ (Lit.int .i64 x.kind).wf = true ∧ Rep.byte.Sl Q w A_body c_body x.body := by
  obtain ⟨a0, b0, rfl, h0, g0⟩ := h
  obtain ⟨e0, w0⟩ := h0
  subst e0
  obtain ⟨a1, b1, rfl, h1, g1⟩ := g0
  obtain ⟨e1, w1⟩ := h1
  subst e1
  obtain ⟨a2, b2, rfl, h2, g2⟩ := g1
  obtain ⟨e2, w2⟩ := h2
  subst e2
  obtain ⟨A3, c3, e3, w3⟩ := Rep.rd_sl g2
  subst e3
  exact ⟨A3, c3, rfl, w0, w1, w2, w3⟩
theorem rSeal_mk {Q : Nat → Prop} {w : World} {x : DSeal} {A_body : Option Addr} {c_body : Nat} (f0 : (Lit.int .i64 x.epoch).wf = true) (f1 : (Lit.int .i64 x.no).wf = true) (f2 : (Lit.int .i64 x.kind).wf = true) (f3 : Rep.byte.Sl Q w A_body c_body x.body) : rSeal.rd Q w [.int .i64 x.epoch, .int .i64 x.no, .int .i64 x.kind, .slice A_body x.body.length c_body] x := by
  exact ⟨_, _, rfl, ⟨rfl, f0⟩, ⟨_, _, rfl, ⟨rfl, f1⟩, ⟨_, _, rfl, ⟨rfl, f2⟩, Rep.sl_rd f3⟩⟩⟩
theorem rSeal_at {Q : Nat → Prop} {w : World} {A : Option Addr} {xs : List DSeal} (h : rSeal.At Q w A xs) {i : Nat} {x : DSeal} (hx : xs[i]? = some x) :
    ∃ (b off : Nat) (A_body : Option Addr) (c_body : Nat), A = some ⟨b, off, none⟩ ∧ IsC w b ∧ w.cell? ⟨b, off + i * 4, none⟩ = some (.int .i64 x.epoch) ∧ w.cell? ⟨b, off + i * 4 + 1, none⟩ = some (.int .i64 x.no) ∧ w.cell? ⟨b, off + i * 4 + 2, none⟩ = some (.int .i64 x.kind) ∧ w.cell? ⟨b, off + i * 4 + 3, none⟩ = some (.slice A_body x.body.length c_body) ∧ (Lit.int .i64 x.epoch).wf = true ∧ (Lit.int .i64 x.no).wf = true ∧ (Lit.int .i64 x.kind).wf = true ∧ Rep.byte.Sl Q w A_body c_body x.body := by
  obtain ⟨b, off, es, h1, _, h2, h3, h4⟩ := h.get hx
  obtain ⟨A_body, c_body, e, f0, f1, f2, f3⟩ := rSeal_open h3
  subst e
  rw [rSeal_size] at h4
  exact ⟨b, off, A_body, c_body, h1, h2, h4 0 _ rfl, h4 1 _ rfl, h4 2 _ rfl, h4 3 _ rfl, f0, f1, f2, f3⟩
theorem rSeal_val {Q : Nat → Prop} {w : World} {v : Value} {x : DSeal} (h : rSeal.val Q w v x) : ∃ (A_body : Option Addr) (c_body : Nat), v = .agg #[.int .i64 x.epoch, .int .i64 x.no, .int .i64 x.kind, .slice A_body x.body.length c_body] ∧ (Lit.int .i64 x.epoch).wf = true ∧ (Lit.int .i64 x.no).wf = true ∧ (Lit.int .i64 x.kind).wf = true ∧ Rep.byte.Sl Q w A_body c_body x.body := by
  obtain ⟨cs, rfl, h⟩ := h
  obtain ⟨A_body, c_body, e, f0, f1, f2, f3⟩ := rSeal_open h
  subst e
  exact ⟨A_body, c_body, rfl, f0, f1, f2, f3⟩
theorem rSeal_agg {Q : Nat → Prop} {w : World} {x : DSeal} {A_body : Option Addr} {c_body : Nat} (f0 : (Lit.int .i64 x.epoch).wf = true) (f1 : (Lit.int .i64 x.no).wf = true) (f2 : (Lit.int .i64 x.kind).wf = true) (f3 : Rep.byte.Sl Q w A_body c_body x.body) : rSeal.val Q w (.agg #[.int .i64 x.epoch, .int .i64 x.no, .int .i64 x.kind, .slice A_body x.body.length c_body]) x := ⟨_, rfl, rSeal_mk f0 f1 f2 f3⟩

@[ext] structure DPolicy where
  room : Int
  frames : Int
  deriving DecidableEq

def rPolicy : Rep DPolicy := ((Rep.int .i64).pair (Rep.int .i64)).iso fun x => (x.room, x.frames)
theorem rPolicy_size : rPolicy.size = 2 := rfl
theorem rPolicy_open {Q : Nat → Prop} {w : World} {cs : List Value} {x : DPolicy} (h : rPolicy.rd Q w cs x) : cs = [.int .i64 x.room, .int .i64 x.frames] ∧ (Lit.int .i64 x.room).wf = true ∧ (Lit.int .i64 x.frames).wf = true := by
  obtain ⟨a0, b0, rfl, h0, g0⟩ := h
  obtain ⟨e0, w0⟩ := h0
  subst e0
  obtain ⟨e1, w1⟩ := g0
  subst e1
  exact ⟨rfl, w0, w1⟩
theorem rPolicy_mk {Q : Nat → Prop} {w : World} {x : DPolicy}  (f0 : (Lit.int .i64 x.room).wf = true) (f1 : (Lit.int .i64 x.frames).wf = true) : rPolicy.rd Q w [.int .i64 x.room, .int .i64 x.frames] x := by
  exact ⟨_, _, rfl, ⟨rfl, f0⟩, ⟨rfl, f1⟩⟩
theorem rPolicy_at {Q : Nat → Prop} {w : World} {A : Option Addr} {xs : List DPolicy} (h : rPolicy.At Q w A xs) {i : Nat} {x : DPolicy} (hx : xs[i]? = some x) :
    ∃ (b off : Nat), A = some ⟨b, off, none⟩ ∧ IsC w b ∧ w.cell? ⟨b, off + i * 2, none⟩ = some (.int .i64 x.room) ∧ w.cell? ⟨b, off + i * 2 + 1, none⟩ = some (.int .i64 x.frames) ∧ (Lit.int .i64 x.room).wf = true ∧ (Lit.int .i64 x.frames).wf = true := by
  obtain ⟨b, off, es, h1, _, h2, h3, h4⟩ := h.get hx
  obtain ⟨e, f0, f1⟩ := rPolicy_open h3
  subst e
  rw [rPolicy_size] at h4
  exact ⟨b, off, h1, h2, h4 0 _ rfl, h4 1 _ rfl, f0, f1⟩
theorem rPolicy_val {Q : Nat → Prop} {w : World} {v : Value} {x : DPolicy} (h : rPolicy.val Q w v x) : v = .agg #[.int .i64 x.room, .int .i64 x.frames] ∧ (Lit.int .i64 x.room).wf = true ∧ (Lit.int .i64 x.frames).wf = true := by
  obtain ⟨cs, rfl, h⟩ := h
  obtain ⟨e, f0, f1⟩ := rPolicy_open h
  subst e
  exact ⟨rfl, f0, f1⟩
theorem rPolicy_agg {Q : Nat → Prop} {w : World} {x : DPolicy}  (f0 : (Lit.int .i64 x.room).wf = true) (f1 : (Lit.int .i64 x.frames).wf = true) : rPolicy.val Q w (.agg #[.int .i64 x.room, .int .i64 x.frames]) x := ⟨_, rfl, rPolicy_mk f0 f1⟩

@[ext] structure DCmd where
  kind : Int
  loc : Bool
  id : DID
  comp : Int
  data : List UInt8
  deriving DecidableEq

def rCmd : Rep DCmd := ((Rep.int .i64).pair (Rep.bool.pair (rID.pair ((Rep.int .i64).pair Rep.byte.list)))).iso fun x => (x.kind, x.loc, x.id, x.comp, x.data)
theorem rCmd_size : rCmd.size = 6 := rfl
theorem rCmd_open {Q : Nat → Prop} {w : World} {cs : List Value} {x : DCmd} (h : rCmd.rd Q w cs x) : ∃ (A_data : Option Addr) (c_data : Nat), cs = [.int .i64 x.kind, .bool x.loc, .int .i64 x.id.index, .int .i64 x.id.gen, .int .i64 x.comp, .slice A_data x.data.length c_data] ∧ (Lit.int .i64 x.kind).wf = true ∧ (Lit.int .i64 x.id.index).wf = true ∧ (Lit.int .i64 x.id.gen).wf = true ∧ (Lit.int .i64 x.comp).wf = true ∧ Rep.byte.Sl Q w A_data c_data x.data := by
  obtain ⟨a0, b0, rfl, h0, g0⟩ := h
  obtain ⟨e0, w0⟩ := h0
  subst e0
  obtain ⟨a1, b1, rfl, h1, g1⟩ := g0
  have e1 := h1
  subst e1
  obtain ⟨a2, b2, rfl, h2, g2⟩ := g1
  obtain ⟨e2, w2_0, w2_1⟩ := rID_open h2
  subst e2
  obtain ⟨a3, b3, rfl, h3, g3⟩ := g2
  obtain ⟨e3, w3⟩ := h3
  subst e3
  obtain ⟨A4, c4, e4, w4⟩ := Rep.rd_sl g3
  subst e4
  exact ⟨A4, c4, rfl, w0, w2_0, w2_1, w3, w4⟩
theorem rCmd_mk {Q : Nat → Prop} {w : World} {x : DCmd} {A_data : Option Addr} {c_data : Nat} (f0 : (Lit.int .i64 x.kind).wf = true) (f1 : (Lit.int .i64 x.id.index).wf = true) (f2 : (Lit.int .i64 x.id.gen).wf = true) (f3 : (Lit.int .i64 x.comp).wf = true) (f4 : Rep.byte.Sl Q w A_data c_data x.data) : rCmd.rd Q w [.int .i64 x.kind, .bool x.loc, .int .i64 x.id.index, .int .i64 x.id.gen, .int .i64 x.comp, .slice A_data x.data.length c_data] x := by
  exact ⟨_, _, rfl, ⟨rfl, f0⟩, ⟨_, _, rfl, rfl, ⟨_, _, rfl, rID_mk f1 f2, ⟨_, _, rfl, ⟨rfl, f3⟩, Rep.sl_rd f4⟩⟩⟩⟩
theorem rCmd_at {Q : Nat → Prop} {w : World} {A : Option Addr} {xs : List DCmd} (h : rCmd.At Q w A xs) {i : Nat} {x : DCmd} (hx : xs[i]? = some x) :
    ∃ (b off : Nat) (A_data : Option Addr) (c_data : Nat), A = some ⟨b, off, none⟩ ∧ IsC w b ∧ w.cell? ⟨b, off + i * 6, none⟩ = some (.int .i64 x.kind) ∧ w.cell? ⟨b, off + i * 6 + 1, none⟩ = some (.bool x.loc) ∧ w.cell? ⟨b, off + i * 6 + 2, none⟩ = some (.int .i64 x.id.index) ∧ w.cell? ⟨b, off + i * 6 + 3, none⟩ = some (.int .i64 x.id.gen) ∧ w.cell? ⟨b, off + i * 6 + 4, none⟩ = some (.int .i64 x.comp) ∧ w.cell? ⟨b, off + i * 6 + 5, none⟩ = some (.slice A_data x.data.length c_data) ∧ (Lit.int .i64 x.kind).wf = true ∧ (Lit.int .i64 x.id.index).wf = true ∧ (Lit.int .i64 x.id.gen).wf = true ∧ (Lit.int .i64 x.comp).wf = true ∧ Rep.byte.Sl Q w A_data c_data x.data := by
  obtain ⟨b, off, es, h1, _, h2, h3, h4⟩ := h.get hx
  obtain ⟨A_data, c_data, e, f0, f1, f2, f3, f4⟩ := rCmd_open h3
  subst e
  rw [rCmd_size] at h4
  exact ⟨b, off, A_data, c_data, h1, h2, h4 0 _ rfl, h4 1 _ rfl, h4 2 _ rfl, h4 3 _ rfl, h4 4 _ rfl, h4 5 _ rfl, f0, f1, f2, f3, f4⟩
theorem rCmd_val {Q : Nat → Prop} {w : World} {v : Value} {x : DCmd} (h : rCmd.val Q w v x) : ∃ (A_data : Option Addr) (c_data : Nat), v = .agg #[.int .i64 x.kind, .bool x.loc, .int .i64 x.id.index, .int .i64 x.id.gen, .int .i64 x.comp, .slice A_data x.data.length c_data] ∧ (Lit.int .i64 x.kind).wf = true ∧ (Lit.int .i64 x.id.index).wf = true ∧ (Lit.int .i64 x.id.gen).wf = true ∧ (Lit.int .i64 x.comp).wf = true ∧ Rep.byte.Sl Q w A_data c_data x.data := by
  obtain ⟨cs, rfl, h⟩ := h
  obtain ⟨A_data, c_data, e, f0, f1, f2, f3, f4⟩ := rCmd_open h
  subst e
  exact ⟨A_data, c_data, rfl, f0, f1, f2, f3, f4⟩
theorem rCmd_agg {Q : Nat → Prop} {w : World} {x : DCmd} {A_data : Option Addr} {c_data : Nat} (f0 : (Lit.int .i64 x.kind).wf = true) (f1 : (Lit.int .i64 x.id.index).wf = true) (f2 : (Lit.int .i64 x.id.gen).wf = true) (f3 : (Lit.int .i64 x.comp).wf = true) (f4 : Rep.byte.Sl Q w A_data c_data x.data) : rCmd.val Q w (.agg #[.int .i64 x.kind, .bool x.loc, .int .i64 x.id.index, .int .i64 x.id.gen, .int .i64 x.comp, .slice A_data x.data.length c_data]) x := ⟨_, rfl, rCmd_mk f0 f1 f2 f3 f4⟩

@[ext] structure DEvent where
  kind : Int
  id : DID
  frame : Int
  deriving DecidableEq

def rEvent : Rep DEvent := ((Rep.int .i64).pair (rID.pair (Rep.int .i64))).iso fun x => (x.kind, x.id, x.frame)
theorem rEvent_size : rEvent.size = 4 := rfl
theorem rEvent_open {Q : Nat → Prop} {w : World} {cs : List Value} {x : DEvent} (h : rEvent.rd Q w cs x) : cs = [.int .i64 x.kind, .int .i64 x.id.index, .int .i64 x.id.gen, .int .i64 x.frame] ∧ (Lit.int .i64 x.kind).wf = true ∧ (Lit.int .i64 x.id.index).wf = true ∧ (Lit.int .i64 x.id.gen).wf = true ∧ (Lit.int .i64 x.frame).wf = true := by
  obtain ⟨a0, b0, rfl, h0, g0⟩ := h
  obtain ⟨e0, w0⟩ := h0
  subst e0
  obtain ⟨a1, b1, rfl, h1, g1⟩ := g0
  obtain ⟨e1, w1_0, w1_1⟩ := rID_open h1
  subst e1
  obtain ⟨e2, w2⟩ := g1
  subst e2
  exact ⟨rfl, w0, w1_0, w1_1, w2⟩
theorem rEvent_mk {Q : Nat → Prop} {w : World} {x : DEvent}  (f0 : (Lit.int .i64 x.kind).wf = true) (f1 : (Lit.int .i64 x.id.index).wf = true) (f2 : (Lit.int .i64 x.id.gen).wf = true) (f3 : (Lit.int .i64 x.frame).wf = true) : rEvent.rd Q w [.int .i64 x.kind, .int .i64 x.id.index, .int .i64 x.id.gen, .int .i64 x.frame] x := by
  exact ⟨_, _, rfl, ⟨rfl, f0⟩, ⟨_, _, rfl, rID_mk f1 f2, ⟨rfl, f3⟩⟩⟩
theorem rEvent_at {Q : Nat → Prop} {w : World} {A : Option Addr} {xs : List DEvent} (h : rEvent.At Q w A xs) {i : Nat} {x : DEvent} (hx : xs[i]? = some x) :
    ∃ (b off : Nat), A = some ⟨b, off, none⟩ ∧ IsC w b ∧ w.cell? ⟨b, off + i * 4, none⟩ = some (.int .i64 x.kind) ∧ w.cell? ⟨b, off + i * 4 + 1, none⟩ = some (.int .i64 x.id.index) ∧ w.cell? ⟨b, off + i * 4 + 2, none⟩ = some (.int .i64 x.id.gen) ∧ w.cell? ⟨b, off + i * 4 + 3, none⟩ = some (.int .i64 x.frame) ∧ (Lit.int .i64 x.kind).wf = true ∧ (Lit.int .i64 x.id.index).wf = true ∧ (Lit.int .i64 x.id.gen).wf = true ∧ (Lit.int .i64 x.frame).wf = true := by
  obtain ⟨b, off, es, h1, _, h2, h3, h4⟩ := h.get hx
  obtain ⟨e, f0, f1, f2, f3⟩ := rEvent_open h3
  subst e
  rw [rEvent_size] at h4
  exact ⟨b, off, h1, h2, h4 0 _ rfl, h4 1 _ rfl, h4 2 _ rfl, h4 3 _ rfl, f0, f1, f2, f3⟩
theorem rEvent_val {Q : Nat → Prop} {w : World} {v : Value} {x : DEvent} (h : rEvent.val Q w v x) : v = .agg #[.int .i64 x.kind, .int .i64 x.id.index, .int .i64 x.id.gen, .int .i64 x.frame] ∧ (Lit.int .i64 x.kind).wf = true ∧ (Lit.int .i64 x.id.index).wf = true ∧ (Lit.int .i64 x.id.gen).wf = true ∧ (Lit.int .i64 x.frame).wf = true := by
  obtain ⟨cs, rfl, h⟩ := h
  obtain ⟨e, f0, f1, f2, f3⟩ := rEvent_open h
  subst e
  exact ⟨rfl, f0, f1, f2, f3⟩
theorem rEvent_agg {Q : Nat → Prop} {w : World} {x : DEvent}  (f0 : (Lit.int .i64 x.kind).wf = true) (f1 : (Lit.int .i64 x.id.index).wf = true) (f2 : (Lit.int .i64 x.id.gen).wf = true) (f3 : (Lit.int .i64 x.frame).wf = true) : rEvent.val Q w (.agg #[.int .i64 x.kind, .int .i64 x.id.index, .int .i64 x.id.gen, .int .i64 x.frame]) x := ⟨_, rfl, rEvent_mk f0 f1 f2 f3⟩

@[ext] structure DFate where
  kept : Int
  torn : Int
  deriving DecidableEq

def rFate : Rep DFate := ((Rep.int .i64).pair (Rep.int .i64)).iso fun x => (x.kept, x.torn)
theorem rFate_size : rFate.size = 2 := rfl
theorem rFate_open {Q : Nat → Prop} {w : World} {cs : List Value} {x : DFate} (h : rFate.rd Q w cs x) : cs = [.int .i64 x.kept, .int .i64 x.torn] ∧ (Lit.int .i64 x.kept).wf = true ∧ (Lit.int .i64 x.torn).wf = true := by
  obtain ⟨a0, b0, rfl, h0, g0⟩ := h
  obtain ⟨e0, w0⟩ := h0
  subst e0
  obtain ⟨e1, w1⟩ := g0
  subst e1
  exact ⟨rfl, w0, w1⟩
theorem rFate_mk {Q : Nat → Prop} {w : World} {x : DFate}  (f0 : (Lit.int .i64 x.kept).wf = true) (f1 : (Lit.int .i64 x.torn).wf = true) : rFate.rd Q w [.int .i64 x.kept, .int .i64 x.torn] x := by
  exact ⟨_, _, rfl, ⟨rfl, f0⟩, ⟨rfl, f1⟩⟩
theorem rFate_at {Q : Nat → Prop} {w : World} {A : Option Addr} {xs : List DFate} (h : rFate.At Q w A xs) {i : Nat} {x : DFate} (hx : xs[i]? = some x) :
    ∃ (b off : Nat), A = some ⟨b, off, none⟩ ∧ IsC w b ∧ w.cell? ⟨b, off + i * 2, none⟩ = some (.int .i64 x.kept) ∧ w.cell? ⟨b, off + i * 2 + 1, none⟩ = some (.int .i64 x.torn) ∧ (Lit.int .i64 x.kept).wf = true ∧ (Lit.int .i64 x.torn).wf = true := by
  obtain ⟨b, off, es, h1, _, h2, h3, h4⟩ := h.get hx
  obtain ⟨e, f0, f1⟩ := rFate_open h3
  subst e
  rw [rFate_size] at h4
  exact ⟨b, off, h1, h2, h4 0 _ rfl, h4 1 _ rfl, f0, f1⟩
theorem rFate_val {Q : Nat → Prop} {w : World} {v : Value} {x : DFate} (h : rFate.val Q w v x) : v = .agg #[.int .i64 x.kept, .int .i64 x.torn] ∧ (Lit.int .i64 x.kept).wf = true ∧ (Lit.int .i64 x.torn).wf = true := by
  obtain ⟨cs, rfl, h⟩ := h
  obtain ⟨e, f0, f1⟩ := rFate_open h
  subst e
  exact ⟨rfl, f0, f1⟩
theorem rFate_agg {Q : Nat → Prop} {w : World} {x : DFate}  (f0 : (Lit.int .i64 x.kept).wf = true) (f1 : (Lit.int .i64 x.torn).wf = true) : rFate.val Q w (.agg #[.int .i64 x.kept, .int .i64 x.torn]) x := ⟨_, rfl, rFate_mk f0 f1⟩

end Go.Proofs.Yteljibjbndpncaa
