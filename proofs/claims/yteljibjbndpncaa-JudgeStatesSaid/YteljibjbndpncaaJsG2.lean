/- Texts on which the proofs stand: Types, Structs, Bytes, Clone, Le, Text, Comp, Conf, RConf. No condition is laid on any input. -/
import Derived.Test.YteljibjbndpncaaJsG1
import Derived.Test.YteljibjbndpncaaProg
import Derived.BigQuiet
import Derived.Deep.QuietTactic
import Derived.Lib.AppendStr
import Derived.Lib.ConvBytes
import Derived.Laws.IdiomStrings
import Derived.Deep.RegionHeld3
import Derived.WalkMore
namespace Go.Proofs.Yteljibjbndpncaa
open Go.RowKit

/-- What is known of a slice in a cell. -/
def Rep.Sl {α : Type} (r : Rep α) (Q : Nat → Prop) (w : World) (A : Option Addr) (c : Nat) (xs : List α) : Prop := xs.length ≤ c ∧ c ≤ maxLen ∧ r.At Q w A xs
theorem Rep.Sl.val {α : Type} {r : Rep α} {Q : Nat → Prop} {w : World} {A : Option Addr} {c : Nat} {xs : List α} (h : r.Sl Q w A c xs) : r.list.val Q w (.slice A xs.length c) xs := Rep.list_val rfl h.1 h.2.1 h.2.2
theorem Rep.Sl.keep {α : Type} {r : Rep α} {Q Q' : Nat → Prop} {w w' : World} {A : Option Addr} {c : Nat} {xs : List α} (hk : ∀ b, Q b → IsC w b → Q' b ∧ w'.heap[b]? = w.heap[b]?) (h : r.Sl Q w A c xs) : r.Sl Q' w' A c xs := ⟨h.1, h.2.1, h.2.2.keep hk⟩
theorem Rep.Sl.drewN {α : Type} {r : Rep α} {Q : Nat → Prop} {w : World} {A : Option Addr} {c : Nat} {xs : List α} (h : r.Sl Q w A c xs) (n : Nat) : r.Sl Q (w.drewN n) A c xs := ⟨h.1, h.2.1, h.2.2.drewN n⟩
theorem Rep.Sl.below {α : Type} {r : Rep α} {Q : Nat → Prop} {w w' : World} {A : Option Addr} {c : Nat} {xs : List α} {B : Nat} (h : r.Sl Q w A c xs) (hb : Below B w w') (hr : ∀ b, Q b → IsC w b → b < B) : r.Sl Q w' A c xs := ⟨h.1, h.2.1, h.2.2.below hb hr⟩
theorem Rep.sl_rd {α : Type} {r : Rep α} {Q : Nat → Prop} {w : World} {A : Option Addr} {c : Nat} {xs : List α} (h : r.Sl Q w A c xs) : r.list.rd Q w [.slice A xs.length c] xs := by
  obtain ⟨h1, h2, es, h3, h4⟩ := h
  exact ⟨A, c, es, rfl, h1, h2, h3, h4⟩
theorem Rep.rd_sl {α : Type} {r : Rep α} {Q : Nat → Prop} {w : World} {cs : List Value} {xs : List α} (h : r.list.rd Q w cs xs) : ∃ A c, cs = [.slice A xs.length c] ∧ r.Sl Q w A c xs := by
  obtain ⟨A, c, es, rfl, h1, h2, h3, h4⟩ := h
  exact ⟨A, c, rfl, h1, h2, es, h3, h4⟩

@[ext] structure DID where
  index : Int
  gen : Int
  deriving DecidableEq

def rID : Rep DID := ((Rep.int .i64).pair (Rep.int .i64)).iso fun x => (x.index, x.gen)
theorem rID_open {Q : Nat → Prop} {w : World} {cs : List Value} {x : DID} (h : rID.rd Q w cs x) : cs = [.int .i64 x.index, .int .i64 x.gen] ∧ (Lit.int .i64 x.index).wf = true ∧ (Lit.int .i64 x.gen).wf = true := by
  obtain ⟨a0, b0, rfl, h0, g0⟩ := h
  obtain ⟨e0, w0⟩ := h0
  subst e0
  obtain ⟨e1, w1⟩ := g0
  subst e1
  exact ⟨rfl, w0, w1⟩
theorem rID_mk {Q : Nat → Prop} {w : World} {x : DID}  (f0 : (Lit.int .i64 x.index).wf = true) (f1 : (Lit.int .i64 x.gen).wf = true) : rID.rd Q w [.int .i64 x.index, .int .i64 x.gen] x := by
  exact ⟨_, _, rfl, ⟨rfl, f0⟩, ⟨rfl, f1⟩⟩
@[ext] structure DPart where
  comp : Int
  data : List UInt8
  deriving DecidableEq

def rPart : Rep DPart := ((Rep.int .i64).pair Rep.byte.list).iso fun x => (x.comp, x.data)
theorem rPart_size : rPart.size = 2 := rfl
theorem rPart_open {Q : Nat → Prop} {w : World} {cs : List Value} {x : DPart} (h : rPart.rd Q w cs x) : ∃ (A_data : Option Addr) (c_data : Nat), cs = [.int .i64 x.comp, .slice A_data x.data.length c_data] ∧ (Lit.int .i64 x.comp).wf = true ∧ Rep.byte.Sl Q w A_data c_data x.data := by
  obtain ⟨a0, b0, rfl, h0, g0⟩ := h
  obtain ⟨e0, w0⟩ := h0
  subst e0
  obtain ⟨A1, c1, e1, w1⟩ := Rep.rd_sl g0
  subst e1
  exact ⟨A1, c1, rfl, w0, w1⟩
theorem rPart_mk {Q : Nat → Prop} {w : World} {x : DPart} {A_data : Option Addr} {c_data : Nat} (f0 : (Lit.int .i64 x.comp).wf = true) (f1 : Rep.byte.Sl Q w A_data c_data x.data) : rPart.rd Q w [.int .i64 x.comp, .slice A_data x.data.length c_data] x := by
  exact ⟨_, _, rfl, ⟨rfl, f0⟩, Rep.sl_rd f1⟩
theorem rPart_at {Q : Nat → Prop} {w : World} {A : Option Addr} {xs : List DPart} (h : rPart.At Q w A xs) {i : Nat} {x : DPart} (hx : xs[i]? = some x) :
    ∃ (b off : Nat) (A_data : Option Addr) (c_data : Nat), A = some ⟨b, off, none⟩ ∧ IsC w b ∧ w.cell? ⟨b, off + i * 2, none⟩ = some (.int .i64 x.comp) ∧ w.cell? ⟨b, off + i * 2 + 1, none⟩ = some (.slice A_data x.data.length c_data) ∧ (Lit.int .i64 x.comp).wf = true ∧ Rep.byte.Sl Q w A_data c_data x.data := by
  obtain ⟨b, off, es, h1, _, h2, h3, h4⟩ := h.get hx
  obtain ⟨A_data, c_data, e, f0, f1⟩ := rPart_open h3
  subst e
  rw [rPart_size] at h4
  exact ⟨b, off, A_data, c_data, h1, h2, h4 0 _ rfl, h4 1 _ rfl, f0, f1⟩
theorem rPart_val {Q : Nat → Prop} {w : World} {v : Value} {x : DPart} (h : rPart.val Q w v x) : ∃ (A_data : Option Addr) (c_data : Nat), v = .agg #[.int .i64 x.comp, .slice A_data x.data.length c_data] ∧ (Lit.int .i64 x.comp).wf = true ∧ Rep.byte.Sl Q w A_data c_data x.data := by
  obtain ⟨cs, rfl, h⟩ := h
  obtain ⟨A_data, c_data, e, f0, f1⟩ := rPart_open h
  subst e
  exact ⟨A_data, c_data, rfl, f0, f1⟩
theorem rPart_agg {Q : Nat → Prop} {w : World} {x : DPart} {A_data : Option Addr} {c_data : Nat} (f0 : (Lit.int .i64 x.comp).wf = true) (f1 : Rep.byte.Sl Q w A_data c_data x.data) : rPart.val Q w (.agg #[.int .i64 x.comp, .slice A_data x.data.length c_data]) x := ⟨_, rfl, rPart_mk f0 f1⟩

@[ext] structure DEnt where
  id : DID
  parts : List DPart
  deriving DecidableEq

def rEnt : Rep DEnt := (rID.pair rPart.list).iso fun x => (x.id, x.parts)
theorem rEnt_size : rEnt.size = 3 := rfl
theorem rEnt_open {Q : Nat → Prop} {w : World} {cs : List Value} {x : DEnt} (h : rEnt.rd Q w cs x) : ∃ (A_parts : Option Addr) (c_parts : Nat), cs = [.int .i64 x.id.index, .int .i64 x.id.gen, .slice A_parts x.parts.length c_parts] ∧ (Lit.int .i64 x.id.index).wf = true ∧ (Lit.int .i64 x.id.gen).wf = true ∧ rPart.Sl Q w A_parts c_parts x.parts := by
  obtain ⟨a0, b0, rfl, h0, g0⟩ := h
  obtain ⟨e0, w0_0, w0_1⟩ := rID_open h0
  subst e0
  obtain ⟨A1, c1, e1, w1⟩ := Rep.rd_sl g0
  subst e1
  exact ⟨A1, c1, rfl, w0_0, w0_1, w1⟩
theorem rEnt_mk {Q : Nat → Prop} {w : World} {x : DEnt} {A_parts : Option Addr} {c_parts : Nat} (f0 : (Lit.int .i64 x.id.index).wf = true) (f1 : (Lit.int .i64 x.id.gen).wf = true) (f2 : rPart.Sl Q w A_parts c_parts x.parts) : rEnt.rd Q w [.int .i64 x.id.index, .int .i64 x.id.gen, .slice A_parts x.parts.length c_parts] x := by
  exact ⟨_, _, rfl, rID_mk f0 f1, Rep.sl_rd f2⟩
theorem rEnt_at {Q : Nat → Prop} {w : World} {A : Option Addr} {xs : List DEnt} (h : rEnt.At Q w A xs) {i : Nat} {x : DEnt} (hx : xs[i]? = some x) :
    ∃ (b off : Nat) (A_parts : Option Addr) (c_parts : Nat), A = some ⟨b, off, none⟩ ∧ IsC w b ∧ w.cell? ⟨b, off + i * 3, none⟩ = some (.int .i64 x.id.index) ∧ w.cell? ⟨b, off + i * 3 + 1, none⟩ = some (.int .i64 x.id.gen) ∧ w.cell? ⟨b, off + i * 3 + 2, none⟩ = some (.slice A_parts x.parts.length c_parts) ∧ (Lit.int .i64 x.id.index).wf = true ∧ (Lit.int .i64 x.id.gen).wf = true ∧ rPart.Sl Q w A_parts c_parts x.parts := by
  obtain ⟨b, off, es, h1, _, h2, h3, h4⟩ := h.get hx
  obtain ⟨A_parts, c_parts, e, f0, f1, f2⟩ := rEnt_open h3
  subst e
  rw [rEnt_size] at h4
  exact ⟨b, off, A_parts, c_parts, h1, h2, h4 0 _ rfl, h4 1 _ rfl, h4 2 _ rfl, f0, f1, f2⟩
theorem rEnt_val {Q : Nat → Prop} {w : World} {v : Value} {x : DEnt} (h : rEnt.val Q w v x) : ∃ (A_parts : Option Addr) (c_parts : Nat), v = .agg #[.int .i64 x.id.index, .int .i64 x.id.gen, .slice A_parts x.parts.length c_parts] ∧ (Lit.int .i64 x.id.index).wf = true ∧ (Lit.int .i64 x.id.gen).wf = true ∧ rPart.Sl Q w A_parts c_parts x.parts := by
  obtain ⟨cs, rfl, h⟩ := h
  obtain ⟨A_parts, c_parts, e, f0, f1, f2⟩ := rEnt_open h
  subst e
  exact ⟨A_parts, c_parts, rfl, f0, f1, f2⟩
theorem rEnt_agg {Q : Nat → Prop} {w : World} {x : DEnt} {A_parts : Option Addr} {c_parts : Nat} (f0 : (Lit.int .i64 x.id.index).wf = true) (f1 : (Lit.int .i64 x.id.gen).wf = true) (f2 : rPart.Sl Q w A_parts c_parts x.parts) : rEnt.val Q w (.agg #[.int .i64 x.id.index, .int .i64 x.id.gen, .slice A_parts x.parts.length c_parts]) x := ⟨_, rfl, rEnt_mk f0 f1 f2⟩

@[ext] structure DState where
  gens : List Int
  free : List Int
  ents : List DEnt
  deriving DecidableEq

def rState : Rep DState := ((Rep.int .i64).list.pair ((Rep.int .i64).list.pair rEnt.list)).iso fun x => (x.gens, x.free, x.ents)
theorem rState_size : rState.size = 3 := rfl
theorem rState_open {Q : Nat → Prop} {w : World} {cs : List Value} {x : DState} (h : rState.rd Q w cs x) : ∃ (A_gens : Option Addr) (c_gens : Nat) (A_free : Option Addr) (c_free : Nat) (A_ents : Option Addr) (c_ents : Nat), cs = [.slice A_gens x.gens.length c_gens, .slice A_free x.free.length c_free, .slice A_ents x.ents.length c_ents] ∧ (Rep.int .i64).Sl Q w A_gens c_gens x.gens ∧ (Rep.int .i64).Sl Q w A_free c_free x.free ∧ rEnt.Sl Q w A_ents c_ents x.ents := by
  obtain ⟨a0, b0, rfl, h0, g0⟩ := h
  obtain ⟨A0, c0, e0, w0⟩ := Rep.rd_sl h0
  subst e0
  obtain ⟨a1, b1, rfl, h1, g1⟩ := g0
  obtain ⟨A1, c1, e1, w1⟩ := Rep.rd_sl h1
  subst e1
  obtain ⟨A2, c2, e2, w2⟩ := Rep.rd_sl g1
  subst e2
  exact ⟨A0, c0, A1, c1, A2, c2, rfl, w0, w1, w2⟩
theorem rState_mk {Q : Nat → Prop} {w : World} {x : DState} {A_gens : Option Addr} {c_gens : Nat} {A_free : Option Addr} {c_free : Nat} {A_ents : Option Addr} {c_ents : Nat} (f0 : (Rep.int .i64).Sl Q w A_gens c_gens x.gens) (f1 : (Rep.int .i64).Sl Q w A_free c_free x.free) (f2 : rEnt.Sl Q w A_ents c_ents x.ents) : rState.rd Q w [.slice A_gens x.gens.length c_gens, .slice A_free x.free.length c_free, .slice A_ents x.ents.length c_ents] x := by
  exact ⟨_, _, rfl, Rep.sl_rd f0, ⟨_, _, rfl, Rep.sl_rd f1, Rep.sl_rd f2⟩⟩
theorem rState_at {Q : Nat → Prop} {w : World} {A : Option Addr} {xs : List DState} (h : rState.At Q w A xs) {i : Nat} {x : DState} (hx : xs[i]? = some x) :
    ∃ (b off : Nat) (A_gens : Option Addr) (c_gens : Nat) (A_free : Option Addr) (c_free : Nat) (A_ents : Option Addr) (c_ents : Nat), A = some ⟨b, off, none⟩ ∧ IsC w b ∧ w.cell? ⟨b, off + i * 3, none⟩ = some (.slice A_gens x.gens.length c_gens) ∧ w.cell? ⟨b, off + i * 3 + 1, none⟩ = some (.slice A_free x.free.length c_free) ∧ w.cell? ⟨b, off + i * 3 + 2, none⟩ = some (.slice A_ents x.ents.length c_ents) ∧ (Rep.int .i64).Sl Q w A_gens c_gens x.gens ∧ (Rep.int .i64).Sl Q w A_free c_free x.free ∧ rEnt.Sl Q w A_ents c_ents x.ents := by
  obtain ⟨b, off, es, h1, _, h2, h3, h4⟩ := h.get hx
  obtain ⟨A_gens, c_gens, A_free, c_free, A_ents, c_ents, e, f0, f1, f2⟩ := rState_open h3
  subst e
  rw [rState_size] at h4
  exact ⟨b, off, A_gens, c_gens, A_free, c_free, A_ents, c_ents, h1, h2, h4 0 _ rfl, h4 1 _ rfl, h4 2 _ rfl, f0, f1, f2⟩
theorem rState_val {Q : Nat → Prop} {w : World} {v : Value} {x : DState} (h : rState.val Q w v x) : ∃ (A_gens : Option Addr) (c_gens : Nat) (A_free : Option Addr) (c_free : Nat) (A_ents : Option Addr) (c_ents : Nat), v = .agg #[.slice A_gens x.gens.length c_gens, .slice A_free x.free.length c_free, .slice A_ents x.ents.length c_ents] ∧ (Rep.int .i64).Sl Q w A_gens c_gens x.gens ∧ (Rep.int .i64).Sl Q w A_free c_free x.free ∧ rEnt.Sl Q w A_ents c_ents x.ents := by
  obtain ⟨cs, rfl, h⟩ := h
  obtain ⟨A_gens, c_gens, A_free, c_free, A_ents, c_ents, e, f0, f1, f2⟩ := rState_open h
  subst e
  exact ⟨A_gens, c_gens, A_free, c_free, A_ents, c_ents, rfl, f0, f1, f2⟩
theorem rState_agg {Q : Nat → Prop} {w : World} {x : DState} {A_gens : Option Addr} {c_gens : Nat} {A_free : Option Addr} {c_free : Nat} {A_ents : Option Addr} {c_ents : Nat} (f0 : (Rep.int .i64).Sl Q w A_gens c_gens x.gens) (f1 : (Rep.int .i64).Sl Q w A_free c_free x.free) (f2 : rEnt.Sl Q w A_ents c_ents x.ents) : rState.val Q w (.agg #[.slice A_gens x.gens.length c_gens, .slice A_free x.free.length c_free, .slice A_ents x.ents.length c_ents]) x := ⟨_, rfl, rState_mk f0 f1 f2⟩

@[ext] structure DComp where
  name : List UInt8
  size : Int
  deriving DecidableEq

def rComp : Rep DComp := (Rep.text.pair (Rep.int .i64)).iso fun x => (x.name, x.size)
theorem rComp_size : rComp.size = 2 := rfl
theorem rComp_open {Q : Nat → Prop} {w : World} {cs : List Value} {x : DComp} (h : rComp.rd Q w cs x) : cs = [.string ⟨x.name.toArray⟩, .int .i64 x.size] ∧ x.name.length ≤ maxLen ∧ (Lit.int .i64 x.size).wf = true := by
  obtain ⟨a0, b0, rfl, h0, g0⟩ := h
  obtain ⟨e0, w0⟩ := h0
  subst e0
  obtain ⟨e1, w1⟩ := g0
  subst e1
  exact ⟨rfl, w0, w1⟩
theorem rComp_at {Q : Nat → Prop} {w : World} {A : Option Addr} {xs : List DComp} (h : rComp.At Q w A xs) {i : Nat} {x : DComp} (hx : xs[i]? = some x) :
    ∃ (b off : Nat), A = some ⟨b, off, none⟩ ∧ IsC w b ∧ w.cell? ⟨b, off + i * 2, none⟩ = some (.string ⟨x.name.toArray⟩) ∧ w.cell? ⟨b, off + i * 2 + 1, none⟩ = some (.int .i64 x.size) ∧ x.name.length ≤ maxLen ∧ (Lit.int .i64 x.size).wf = true := by
  obtain ⟨b, off, es, h1, _, h2, h3, h4⟩ := h.get hx
  obtain ⟨e, f0, f1⟩ := rComp_open h3
  subst e
  rw [rComp_size] at h4
  exact ⟨b, off, h1, h2, h4 0 _ rfl, h4 1 _ rfl, f0, f1⟩
@[ext] structure DConf where
  log : Int
  pages : Int
  entities : Int
  gens : Int
  comps : List DComp
  deriving DecidableEq

def rConf : Rep DConf := ((Rep.int .i64).pair ((Rep.int .i64).pair ((Rep.int .i64).pair ((Rep.int .i64).pair rComp.list)))).iso fun x => (x.log, x.pages, x.entities, x.gens, x.comps)
theorem rConf_open {Q : Nat → Prop} {w : World} {cs : List Value} {x : DConf} (h : rConf.rd Q w cs x) : ∃ (A_comps : Option Addr) (c_comps : Nat), cs = [.int .i64 x.log, .int .i64 x.pages, .int .i64 x.entities, .int .i64 x.gens, .slice A_comps x.comps.length c_comps] ∧ (Lit.int .i64 x.log).wf = true ∧ (Lit.int .i64 x.pages).wf = true ∧ (Lit.int .i64 x.entities).wf = true ∧ (Lit.int .i64 x.gens).wf = true ∧ rComp.Sl Q w A_comps c_comps x.comps := by
  obtain ⟨a0, b0, rfl, h0, g0⟩ := h
  obtain ⟨e0, w0⟩ := h0
  subst e0
  obtain ⟨a1, b1, rfl, h1, g1⟩ := g0
  obtain ⟨e1, w1⟩ := h1
  subst e1
  obtain ⟨a2, b2, rfl, h2, g2⟩ := g1
  obtain ⟨e2, w2⟩ := h2
  subst e2
  obtain ⟨a3, b3, rfl, h3, g3⟩ := g2
  obtain ⟨e3, w3⟩ := h3
  subst e3
  obtain ⟨A4, c4, e4, w4⟩ := Rep.rd_sl g3
  subst e4
  exact ⟨A4, c4, rfl, w0, w1, w2, w3, w4⟩
theorem rConf_mk {Q : Nat → Prop} {w : World} {x : DConf} {A_comps : Option Addr} {c_comps : Nat} (f0 : (Lit.int .i64 x.log).wf = true) (f1 : (Lit.int .i64 x.pages).wf = true) (f2 : (Lit.int .i64 x.entities).wf = true) (f3 : (Lit.int .i64 x.gens).wf = true) (f4 : rComp.Sl Q w A_comps c_comps x.comps) : rConf.rd Q w [.int .i64 x.log, .int .i64 x.pages, .int .i64 x.entities, .int .i64 x.gens, .slice A_comps x.comps.length c_comps] x := by
  exact ⟨_, _, rfl, ⟨rfl, f0⟩, ⟨_, _, rfl, ⟨rfl, f1⟩, ⟨_, _, rfl, ⟨rfl, f2⟩, ⟨_, _, rfl, ⟨rfl, f3⟩, Rep.sl_rd f4⟩⟩⟩⟩
theorem rConf_val {Q : Nat → Prop} {w : World} {v : Value} {x : DConf} (h : rConf.val Q w v x) : ∃ (A_comps : Option Addr) (c_comps : Nat), v = .agg #[.int .i64 x.log, .int .i64 x.pages, .int .i64 x.entities, .int .i64 x.gens, .slice A_comps x.comps.length c_comps] ∧ (Lit.int .i64 x.log).wf = true ∧ (Lit.int .i64 x.pages).wf = true ∧ (Lit.int .i64 x.entities).wf = true ∧ (Lit.int .i64 x.gens).wf = true ∧ rComp.Sl Q w A_comps c_comps x.comps := by
  obtain ⟨cs, rfl, h⟩ := h
  obtain ⟨A_comps, c_comps, e, f0, f1, f2, f3, f4⟩ := rConf_open h
  subst e
  exact ⟨A_comps, c_comps, rfl, f0, f1, f2, f3, f4⟩
theorem rConf_agg {Q : Nat → Prop} {w : World} {x : DConf} {A_comps : Option Addr} {c_comps : Nat} (f0 : (Lit.int .i64 x.log).wf = true) (f1 : (Lit.int .i64 x.pages).wf = true) (f2 : (Lit.int .i64 x.entities).wf = true) (f3 : (Lit.int .i64 x.gens).wf = true) (f4 : rComp.Sl Q w A_comps c_comps x.comps) : rConf.val Q w (.agg #[.int .i64 x.log, .int .i64 x.pages, .int .i64 x.entities, .int .i64 x.gens, .slice A_comps x.comps.length c_comps]) x := ⟨_, rfl, rConf_mk f0 f1 f2 f3 f4⟩

@[ext] structure DSeal where
  epoch : Int
  no : Int
  kind : Int
  body : List UInt8
  deriving DecidableEq

@[ext] structure DCmd where
  kind : Int
  loc : Bool
  id : DID
  comp : Int
  data : List UInt8
  deriving DecidableEq

def rCmd : Rep DCmd := ((Rep.int .i64).pair (Rep.bool.pair (rID.pair ((Rep.int .i64).pair Rep.byte.list)))).iso fun x => (x.kind, x.loc, x.id, x.comp, x.data)
theorem rCmd_size : rCmd.size = 6 := rfl
theorem rCmd_open {Q : Nat → Prop} {w : World} {cs : List Value} {x : DCmd} (h : rCmd.rd Q w cs x) : ∃ (A_data : Option Addr) (c_data : Nat), cs = [.int .i64 x.kind, .bool x.loc, .int .i64 x.id.index, .int .i64 x.id.gen, .int .i64 x.comp, .slice A_data x.data.length c_data] ∧ (Lit.int .i64 x.kind).wf = true ∧ (Lit.int .i64 x.id.index).wf = true ∧ (Lit.int .i64 x.id.gen).wf = true ∧ (Lit.int .i64 x.comp).wf = true ∧ Rep.byte.Sl Q w A_data c_data x.data := by
  obtain ⟨a0, b0, rfl, h0, g0⟩ := h
  obtain ⟨e0, w0⟩ := h0
  subst e0
  obtain ⟨a1, b1, rfl, h1, g1⟩ := g0
  have e1 := h1
  subst e1
  obtain ⟨a2, b2, rfl, h2, g2⟩ := g1
  obtain ⟨e2, w2_0, w2_1⟩ := rID_open h2
  subst e2
  obtain ⟨a3, b3, rfl, h3, g3⟩ := g2
  obtain ⟨e3, w3⟩ := h3
  subst e3
  obtain ⟨A4, c4, e4, w4⟩ := Rep.rd_sl g3
  subst e4
  exact ⟨A4, c4, rfl, w0, w2_0, w2_1, w3, w4⟩
theorem rCmd_mk {Q : Nat → Prop} {w : World} {x : DCmd} {A_data : Option Addr} {c_data : Nat} (f0 : (Lit.int .i64 x.kind).wf = true) (f1 : (Lit.int .i64 x.id.index).wf = true) (f2 : (Lit.int .i64 x.id.gen).wf = true) (f3 : (Lit.int .i64 x.comp).wf = true) (f4 : Rep.byte.Sl Q w A_data c_data x.data) : rCmd.rd Q w [.int .i64 x.kind, .bool x.loc, .int .i64 x.id.index, .int .i64 x.id.gen, .int .i64 x.comp, .slice A_data x.data.length c_data] x := by
  exact ⟨_, _, rfl, ⟨rfl, f0⟩, ⟨_, _, rfl, rfl, ⟨_, _, rfl, rID_mk f1 f2, ⟨_, _, rfl, ⟨rfl, f3⟩, Rep.sl_rd f4⟩⟩⟩⟩
theorem rCmd_at {Q : Nat → Prop} {w : World} {A : Option Addr} {xs : List DCmd} (h : rCmd.At Q w A xs) {i : Nat} {x : DCmd} (hx : xs[i]? = some x) :
    ∃ (b off : Nat) (A_data : Option Addr) (c_data : Nat), A = some ⟨b, off, none⟩ ∧ IsC w b ∧ w.cell? ⟨b, off + i * 6, none⟩ = some (.int .i64 x.kind) ∧ w.cell? ⟨b, off + i * 6 + 1, none⟩ = some (.bool x.loc) ∧ w.cell? ⟨b, off + i * 6 + 2, none⟩ = some (.int .i64 x.id.index) ∧ w.cell? ⟨b, off + i * 6 + 3, none⟩ = some (.int .i64 x.id.gen) ∧ w.cell? ⟨b, off + i * 6 + 4, none⟩ = some (.int .i64 x.comp) ∧ w.cell? ⟨b, off + i * 6 + 5, none⟩ = some (.slice A_data x.data.length c_data) ∧ (Lit.int .i64 x.kind).wf = true ∧ (Lit.int .i64 x.id.index).wf = true ∧ (Lit.int .i64 x.id.gen).wf = true ∧ (Lit.int .i64 x.comp).wf = true ∧ Rep.byte.Sl Q w A_data c_data x.data := by
  obtain ⟨b, off, es, h1, _, h2, h3, h4⟩ := h.get hx
  obtain ⟨A_data, c_data, e, f0, f1, f2, f3, f4⟩ := rCmd_open h3
  subst e
  rw [rCmd_size] at h4
  exact ⟨b, off, A_data, c_data, h1, h2, h4 0 _ rfl, h4 1 _ rfl, h4 2 _ rfl, h4 3 _ rfl, h4 4 _ rfl, h4 5 _ rfl, f0, f1, f2, f3, f4⟩
theorem rCmd_val {Q : Nat → Prop} {w : World} {v : Value} {x : DCmd} (h : rCmd.val Q w v x) : ∃ (A_data : Option Addr) (c_data : Nat), v = .agg #[.int .i64 x.kind, .bool x.loc, .int .i64 x.id.index, .int .i64 x.id.gen, .int .i64 x.comp, .slice A_data x.data.length c_data] ∧ (Lit.int .i64 x.kind).wf = true ∧ (Lit.int .i64 x.id.index).wf = true ∧ (Lit.int .i64 x.id.gen).wf = true ∧ (Lit.int .i64 x.comp).wf = true ∧ Rep.byte.Sl Q w A_data c_data x.data := by
  obtain ⟨cs, rfl, h⟩ := h
  obtain ⟨A_data, c_data, e, f0, f1, f2, f3, f4⟩ := rCmd_open h
  subst e
  exact ⟨A_data, c_data, rfl, f0, f1, f2, f3, f4⟩
theorem rCmd_agg {Q : Nat → Prop} {w : World} {x : DCmd} {A_data : Option Addr} {c_data : Nat} (f0 : (Lit.int .i64 x.kind).wf = true) (f1 : (Lit.int .i64 x.id.index).wf = true) (f2 : (Lit.int .i64 x.id.gen).wf = true) (f3 : (Lit.int .i64 x.comp).wf = true) (f4 : Rep.byte.Sl Q w A_data c_data x.data) : rCmd.val Q w (.agg #[.int .i64 x.kind, .bool x.loc, .int .i64 x.id.index, .int .i64 x.id.gen, .int .i64 x.comp, .slice A_data x.data.length c_data]) x := ⟨_, rfl, rCmd_mk f0 f1 f2 f3 f4⟩

end Go.Proofs.Yteljibjbndpncaa
namespace Go.Proofs.Yteljibjbndpncaa
open Go.ChangeShapes Go.WideShapes Go.ChangeAt Go.RowKit
namespace Rep

/-- Fields, one behind the other, from the offset o on. -/
def Fields {α : Type} (r : Rep α) (P : Program) (fs : List Field) (o : Nat) : Prop :=
  (∀ f ∈ fs, o ≤ f.offset) ∧ ∀ (H : Type) (enc : TypeId × Value → H) (w : World) (n : Nat) (cs : List Value), cs.length = r.size →
    (∀ f ∈ fs, ∃ x, DataW.trod enc P w 0 (fun _ => true) true n f.type ((cs.drop (f.offset - o)).take (P.cellsOf f.type)) = some x) → ∃ y, r.rd (fun _ => True) w cs y

theorem fields_one {α : Type} {r : Rep α} {P : Program} {f : Field} {o : Nat} (ho : f.offset = o) (h : r.Of P f.type) : r.Fields P [f] o :=
  ⟨(fun g hg => by
    have : g = f := by simpa using hg
    rw [this]; omega), fun H enc w n cs hl hf => by
    obtain ⟨x, hx⟩ := hf f (by simp)
    rw [ho, Nat.sub_self, List.drop_zero, h.1, ← hl, List.take_length] at hx
    exact h.2 H enc w n cs x hx⟩
theorem fields_cons {α β : Type} {r : Rep α} {s : Rep β} {P : Program} {f : Field} {fs : List Field} {o : Nat} (ho : f.offset = o) (h : r.Of P f.type) (hs : s.Fields P fs (o + r.size)) : (r.pair s).Fields P (f :: fs) o :=
  ⟨(fun g hg => by
    rcases List.mem_cons.1 hg with rfl | hg
    · omega
    · have := hs.1 g hg; omega), fun H enc w n cs hl hf => by
    have hl' : cs.length = r.size + s.size := hl
    obtain ⟨x, hx⟩ := hf f (by simp)
    rw [ho, Nat.sub_self, List.drop_zero, h.1] at hx
    obtain ⟨y, hy⟩ := h.2 H enc w n _ x hx
    obtain ⟨z, hz⟩ := hs.2 H enc w n (cs.drop r.size) (by rw [List.length_drop]; omega) (fun g hg => by
      obtain ⟨x', hx'⟩ := hf g (by simp [hg])
      refine ⟨x', ?_⟩
      have := hs.1 g hg
      rw [List.drop_drop, show r.size + (g.offset - (o + r.size)) = g.offset - o by omega]
      exact hx')
    exact ⟨(y, z), cs.take r.size, cs.drop r.size, (List.take_append_drop _ _).symm, hy, hz⟩⟩

theorem of_struct {α β : Type} {r : Rep α} {P : Program} {t : TypeId} {fs : Array Field} (f : β → α) (g : α → β) (hfg : ∀ x, f (g x) = x) (ht : P.underlying t = some (.struct fs)) (hc : P.cellsOf t = r.size) (h : r.Fields P fs.toList 0) : (r.iso f).Of P t :=
  ⟨hc, fun H enc w fuel cs x hx => by
    obtain ⟨xs, n, _, rfl, hl, hlen, hf⟩ := DataW.trod_struct ht hx
    obtain ⟨y, hy⟩ := h.2 H enc w n cs (by rw [hl, hc]) (fun fd hfd => by
      obtain ⟨i, hi, rfl⟩ := List.getElem_of_mem hfd
      have hi' : i < fs.size := by simpa using hi
      have := hf i fs[i] (by simp [hi'])
      refine ⟨xs[i]'(by omega), ?_⟩
      simp only [Nat.sub_zero, Array.getElem_toList]
      rw [this]
      simp)
    exact ⟨g y, by show r.rd _ _ _ (f (g y)); rw [hfg]; exact hy⟩⟩
end Rep
theorem of_ID : rID.Of Try.prog 114 :=
  Rep.of_struct _ (fun x => ⟨x.1, x.2⟩) (fun _ => rfl) Try.underlying114 (by kernel_rfl) (Rep.fields_cons rfl (Rep.of_int Try.underlying3 (by kernel_rfl)) (Rep.fields_one rfl (Rep.of_int Try.underlying3 (by kernel_rfl))))
theorem of_Part : rPart.Of Try.prog 135 :=
  Rep.of_struct _ (fun x => ⟨x.1, x.2⟩) (fun _ => rfl) Try.underlying135 (by kernel_rfl) (Rep.fields_cons rfl (Rep.of_int Try.underlying3 (by kernel_rfl)) (Rep.fields_one rfl (Rep.of_list Try.underlying33 (by kernel_rfl) (by decide) (Rep.of_byte Try.underlying5 (by kernel_rfl)))))
theorem of_Ent : rEnt.Of Try.prog 133 :=
  Rep.of_struct _ (fun x => ⟨x.1, x.2⟩) (fun _ => rfl) Try.underlying133 (by kernel_rfl) (Rep.fields_cons rfl of_ID (Rep.fields_one rfl (Rep.of_list Try.underlying131 (by kernel_rfl) (by decide) of_Part)))
theorem of_State : rState.Of Try.prog 75 :=
  Rep.of_struct _ (fun x => ⟨x.1, x.2.1, x.2.2⟩) (fun _ => rfl) Try.underlying75 (by kernel_rfl) (Rep.fields_cons rfl (Rep.of_list Try.underlying27 (by kernel_rfl) (by decide) (Rep.of_int Try.underlying3 (by kernel_rfl))) (Rep.fields_cons rfl (Rep.of_list Try.underlying27 (by kernel_rfl) (by decide) (Rep.of_int Try.underlying3 (by kernel_rfl))) (Rep.fields_one rfl (Rep.of_list Try.underlying73 (by kernel_rfl) (by decide) of_Ent))))
theorem of_Comp : rComp.Of Try.prog 99 :=
  Rep.of_struct _ (fun x => ⟨x.1, x.2⟩) (fun _ => rfl) Try.underlying99 (by kernel_rfl) (Rep.fields_cons rfl (Rep.of_text Try.underlying9 (by kernel_rfl)) (Rep.fields_one rfl (Rep.of_int Try.underlying3 (by kernel_rfl))))
theorem of_Conf : rConf.Of Try.prog 49 :=
  Rep.of_struct _ (fun x => ⟨x.1, x.2.1, x.2.2.1, x.2.2.2.1, x.2.2.2.2⟩) (fun _ => rfl) Try.underlying49 (by kernel_rfl) (Rep.fields_cons rfl (Rep.of_int Try.underlying3 (by kernel_rfl)) (Rep.fields_cons rfl (Rep.of_int Try.underlying3 (by kernel_rfl)) (Rep.fields_cons rfl (Rep.of_int Try.underlying3 (by kernel_rfl)) (Rep.fields_cons rfl (Rep.of_int Try.underlying3 (by kernel_rfl)) (Rep.fields_one rfl (Rep.of_list Try.underlying47 (by kernel_rfl) (by decide) of_Comp))))))
theorem of_Cmd : rCmd.Of Try.prog 116 :=
  Rep.of_struct _ (fun x => ⟨x.1, x.2.1, x.2.2.1, x.2.2.2.1, x.2.2.2.2⟩) (fun _ => rfl) Try.underlying116 (by kernel_rfl) (Rep.fields_cons rfl (Rep.of_int Try.underlying3 (by kernel_rfl)) (Rep.fields_cons rfl (Rep.of_bool Try.underlying4 (by kernel_rfl)) (Rep.fields_cons rfl of_ID (Rep.fields_cons rfl (Rep.of_int Try.underlying3 (by kernel_rfl)) (Rep.fields_one rfl (Rep.of_list Try.underlying33 (by kernel_rfl) (by decide) (Rep.of_byte Try.underlying5 (by kernel_rfl))))))))
end Go.Proofs.Yteljibjbndpncaa
namespace Go.Proofs.Yteljibjbndpncaa
open Go.RowKit

/-- ref01.Same -/
theorem sameBytes {Q Q' : Nat → Prop} {w : World} {v u : Value} {xs ys : List UInt8} (hx : Rep.byte.list.val Q w v xs) (hy : Rep.byte.list.val Q' w u ys) :
    Calls Try.prog 53 #[v, u] w fun e w' => e = .returned (.bool (decide (xs = ys))) ∧ w' = w := by
  obtain ⟨A, c, rfl, hc1, hc2, hA⟩ := Rep.val_list hx
  obtain ⟨B, d, rfl, hd1, hd2, hB⟩ := Rep.val_list hy
  have h1 := hA.toText (P := Try.prog) Try.underlying33 Try.underlying5 Try.underlying9 c
  have h2 := hB.toText (P := Try.prog) Try.underlying33 Try.underlying5 Try.underlying9 d
  clear hx hy hA hB hc1 hc2 hd1 hd2
  go_enter Try.func53, Try.ntmps53
  go_wp2_with fail
  go_ret
  exact ⟨by simp [Bool.beq_eq_decide_eq], rfl⟩

end Go.Proofs.Yteljibjbndpncaa
namespace Go.Proofs.Yteljibjbndpncaa
open Go.RowKit

theorem info5 : (Try.prog.info? 5).map (fun i => (i.zero, i.size, i.bytes)) = some (some (.int .u8 0), 1, 1) := by kernel_rfl

/-- bytes.Clone -/
theorem bytesClone {Q : Nat → Prop} {w : World} {v : Value} {l : List UInt8} (hx : Rep.byte.list.val Q w v l) (hl : l.length ≤ 100000000000000) :
    Calls Try.prog 50 #[v] w (Res Rep.byte.list (fun b => w.heap.size ≤ b) w l) := by
  obtain ⟨A, c, rfl, hc1, hc2, hA⟩ := Rep.val_list hx
  unfold maxLen at hc2
  cases A with
  | none =>
    have hnil : l = [] := by
      rcases Nat.eq_zero_or_pos l.length with h | h
      · exact List.eq_nil_of_length_eq_zero h
      · obtain ⟨b, off, h⟩ := hA.addr h; cases h
    subst hnil
    have he := fun w => Lib.run_eql_slice_nil (P := Try.prog) w 33 5 none 0 c 0 0 Try.underlying33
    go_enter Try.func50, Try.ntmps50
    go_wp2_with fail
    go_ret
    exact ⟨_, rfl, Rep.val_nil (by simp [maxLen]), Below.refl _ _⟩
  | some a =>
    have he := fun w => Lib.run_eql_slice_nil (P := Try.prog) w 33 5 (some a) l.length c 0 0 Try.underlying33
    have HX := Lib.hid (show Rep.byte.list.val (fun b => b < w.heap.size) (w.alloc (.cells #[] 5)) (.slice (some a) l.length c) l from Rep.val_keep (w := w) (fun b _ hl => ⟨hl.lt, Below.heap_alloc _ _ _ hl.lt⟩) hx)
    have HA := Lib.hid (show Rep.byte.acc 5 w.heap.size (fun _ => False) (w.alloc (.cells #[] 5)) (.slice (some ⟨w.heap.size, 0, none⟩) 0 0) [] from Rep.acc_made w #[] 0 (Nat.le_refl _) (by simp [maxLen]) (by simp))
    have HB1 := Lib.hid (show ([] : List UInt8).length + l.length ≤ maxLen from by simp [maxLen]; omega)
    have HB2 := Lib.hid (show (([] : List UInt8).length + l.length) * 1 ≤ 140737488355328 from by simp; omega)
    have HB3 := Lib.hid (show w.heap.size ≤ (w.alloc (.cells #[] 5)).heap.size from by simp)
    clear hx hA
    go_enter Try.func50, Try.ntmps50
    go_wp2_with (refine wpList_spread_leaf (e := 5) (base := w.heap.size) (Q := fun _ => False) Rep.leaf_byte rfl _ _ 33 rfl (.int .u8 0) 1 1 Try.underlying33 info5 rfl (by decide) rfl _ [] (by exact rfl) HA.out _ l (by exact rfl) HX.out HB1.out HB2.out HB3.out ?_; intro v' w' hacc' hgr hat)
    go_ret
    exact ⟨_, rfl, by simpa using Rep.acc_fresh hacc', Rep.acc_below HA.out ((Below.refl _ w).alloc (Nat.le_refl _) _) hgr HB3.out⟩
end Go.Proofs.Yteljibjbndpncaa
namespace Go.Proofs.Yteljibjbndpncaa
open Go.RowKit

def wide (n : Int) : Int := if n < 1 then 1 else if 8 < n then 8 else n
theorem Rep.acc_later {α : Type} {r : Rep α} {e base : Nat} {Q : Nat → Prop} {w w' : World} {v : Value} {xs : List α} (h : r.acc e base Q w v xs) (hb : Below w.heap.size w w') : r.acc e base Q w' v xs :=
  Rep.acc_keep (fun b _ hl => hb.block b hl.lt) (fun _ h _ => h) h

/-- The bytes of a number. -/
def digit (n : Int) (i : Nat) : UInt8 := UInt8.ofNat (n / 2 ^ (8 * i) % 256).toNat
def num (width n : Int) : List UInt8 := (List.range (wide width).toNat).map (digit n)
end Go.Proofs.Yteljibjbndpncaa
namespace Go.Proofs.Yteljibjbndpncaa
open Go.RowKit

theorem wf_i64 {n : Int} (h1 : -9223372036854775808 ≤ n) (h2 : n ≤ 9223372036854775807) : (Lit.int .i64 n).wf = true := by
  simp [Lit.wf, IntKind.min, IntKind.max, IntKind.signed, IntKind.bits]; omega
end Go.Proofs.Yteljibjbndpncaa
namespace Go.Proofs.Yteljibjbndpncaa
open Go.RowKit

def letterB (c : Int) : Bool := decide (97 ≤ c ∧ c ≤ 122) || decide (48 ≤ c ∧ c ≤ 57) || decide (c = 95)

def withinB (n lo hi : Int) : Bool := decide (lo ≤ n ∧ n ≤ hi)
def nameB (s : List UInt8) : Bool := decide (1 ≤ s.length ∧ s.length ≤ 16) && s.all fun c => letterB (c.toNat : Int)

theorem all_take_succ {α : Type} {p : α → Bool} {s : List α} {k : Nat} (hk : k < s.length) (h : (s.take k).all p = true) (hc : p s[k] = true) : (s.take (k + 1)).all p = true := by
  rw [List.take_succ_eq_append_getElem hk, List.all_append, h]
  simp [hc]
theorem not_all {α : Type} {p : α → Bool} {s : List α} {k : Nat} (hk : k < s.length) (hc : p s[k] = false) : s.all p = false := by
  rw [Bool.eq_false_iff]
  intro h
  have := List.all_eq_true.1 h s[k] (List.getElem_mem hk)
  rw [hc] at this; cases this

theorem byte_le (x : UInt8) : (x.toNat : Int) ≤ 255 := by have := x.toNat_lt; omega

theorem dec_split (p : Prop) [Decidable p] : p ∨ (¬ p ∧ decide p = false) := by
  by_cases h : p
  · exact .inl h
  · exact .inr ⟨h, decide_eq_false h⟩

set_option maxRecDepth 10000 in
set_option maxHeartbeats 2000000 in
/-- ref07.Name -/
theorem rname_calls (s : List UInt8) (w : World) (hs : s.length ≤ maxLen) :
    Calls Try.prog 56 #[.string ⟨s.toArray⟩] w fun e w' => e = .returned (.bool (nameB s)) ∧ ∃ n, w' = w.drewN n := by
  have hs' : (s.length : Int) ≤ 9223372036854775807 := by unfold maxLen at hs; omega
  have hsz : (ByteArray.mk s.toArray).size = s.length := by simp [ByteArray.size]
  go_enter Try.func56, Try.ntmps56
  go_wp2_with fail
  go_loopw [3] (fun i wr => ∃ k n : Nat, i = .int .i64 k ∧ k ≤ s.length ∧ Hid ((s.take k).all (fun c => letterB (c.toNat : Int)) = true) ∧ wr = w.drewN n)
    (fun i _ => s.length - (intOf i).toNat)
  case atStart => exact ⟨0, 0, rfl, by omega, rfl, rfl⟩
  case round =>
    obtain ⟨k, n, rfl, hk, hall, rfl⟩ := hrel
    by_cases hlt : (k : Int) < s.length
    · have hk' : k < s.length := by omega
      have hx : (((ByteArray.mk s.toArray)[k]'(by rw [hsz]; omega)).toNat : Int) = (s[k].toNat : Int) := rfl
      have hb := byte_le s[k]
      have hall' := all_take_succ (p := fun c : UInt8 => letterB (c.toNat : Int)) hk' hall
      have hf := not_all (p := fun c : UInt8 => letterB (c.toNat : Int)) hk'
      rcases dec_split (97 ≤ (((ByteArray.mk s.toArray)[k]'(by rw [hsz]; omega)).toNat : Int)) with a1 | ⟨a1, d1⟩ <;>
      rcases dec_split ((((ByteArray.mk s.toArray)[k]'(by rw [hsz]; omega)).toNat : Int) ≤ 122) with a2 | ⟨a2, d2⟩ <;>
      rcases dec_split (48 ≤ (((ByteArray.mk s.toArray)[k]'(by rw [hsz]; omega)).toNat : Int)) with a3 | ⟨a3, d3⟩ <;>
      rcases dec_split ((((ByteArray.mk s.toArray)[k]'(by rw [hsz]; omega)).toNat : Int) ≤ 57) with a4 | ⟨a4, d4⟩ <;>
      rcases dec_split ((((ByteArray.mk s.toArray)[k]'(by rw [hsz]; omega)).toNat : Int) = 95) with a5 | ⟨a5, d5⟩ <;> (try (exfalso; rw [hx] at *; omega))
      all_goals
        first
        | (have hl : letterB (s[k].toNat : Int) = true := by rw [hx] at *; unfold letterB; simp only [Bool.or_eq_true, decide_eq_true_eq]; omega
           have HA := Lib.hid (hall' hl)
           clear hall' hf hl hall hx hb
           go_wp2_with fail
           go_quiet (fail)
           go_wp2_with fail
           all_goals first
             | exact ⟨⟨k + 1, _, by go_num, by omega, HA.out, rfl⟩, by simp [intOf]; omega⟩
             | (exfalso; rename_i h; simp at h; omega))
        | (have hl : letterB (s[k].toNat : Int) = false := by rw [hx] at *; unfold letterB; simp only [Bool.or_eq_false_iff, decide_eq_false_iff_not]; omega
           have HF := Lib.hid (hf hl)
           clear hall' hf hl hall hx hb
           go_wp2_with fail
           go_quiet (fail)
           go_wp2_with fail
           all_goals first
             | (go_ret; exact ⟨by rw [nameB, HF.out, Bool.and_false]; rfl, _, rfl⟩)
             | (exfalso; rename_i h; simp at h; omega))
    · obtain rfl : k = s.length := by omega
      have HF := Lib.hid (show (s.all fun c => letterB (c.toNat : Int)) = true by have := hall.out; rwa [List.take_length] at this)
      clear hall
      rcases dec_split ((1 : Int) ≤ s.length) with a1 | ⟨a1, d1⟩ <;>
      rcases dec_split ((s.length : Int) ≤ 16) with a2 | ⟨a2, d2⟩
      all_goals
        first
        | (have hr : nameB s = true := by rw [nameB, HF.out, Bool.and_true]; simp only [decide_eq_true_eq]; omega
           have HR := Lib.hid hr
           clear hr
           go_wp2_with fail
           go_ret
           exact ⟨by rw [HR.out]; rfl, _, rfl⟩)
        | (have hr : nameB s = false := by rw [nameB, HF.out, Bool.and_true]; simp only [decide_eq_false_iff_not]; omega
           have HR := Lib.hid hr
           clear hr
           go_wp2_with fail
           go_ret
           exact ⟨by rw [HR.out]; rfl, _, rfl⟩)
end Go.Proofs.Yteljibjbndpncaa
namespace Go.Proofs.Yteljibjbndpncaa
open Go.RowKit

def compOk (l : List DComp) (i : Nat) : Bool := match l[i]? with
  | some x => (l.take i).all (fun y => decide (y.name ≠ x.name)) && nameB x.name && withinB x.size 0 64
  | none => true
def confRange (c : DConf) : Bool := withinB c.log 2 1024 && withinB c.pages 4 1024 && withinB c.entities 1 1024 && withinB c.gens 1 1073741824 && decide (c.comps.length ≤ 32)
def confRight (c : DConf) : Bool := confRange c && (List.range c.comps.length).all (compOk c.comps)
theorem range_all_succ {p : Nat → Bool} {k : Nat} (h : (List.range k).all p = true) (hk : p k = true) : (List.range (k + 1)).all p = true := by
  rw [List.range_succ, List.all_append, h]; simp [hk]
theorem range_not_all {p : Nat → Bool} {k n : Nat} (hk : k < n) (h : p k = false) : (List.range n).all p = false := by
  rw [Bool.eq_false_iff]
  intro hh
  have := List.all_eq_true.1 hh k (List.mem_range.2 hk)
  rw [h] at this; cases this

theorem compOk_dup {l : List DComp} {j k : Nat} {x y : DComp} (hjk : j < k) (hk : k < l.length) (hx : l[k] = x) (hj : j < l.length) (hy : l[j] = y) (h : y.name = x.name) : compOk l k = false := by
  unfold compOk
  rw [List.getElem?_eq_getElem hk, hx]
  have : ((l.take k).all fun y => decide (y.name ≠ x.name)) = false := by
    rw [Bool.eq_false_iff]
    intro hh
    have hm : y ∈ l.take k := by rw [← hy]; exact List.mem_take_iff_getElem.2 ⟨j, by omega, rfl⟩
    have := List.all_eq_true.1 hh y hm
    simp [h] at this
  simp only [this, Bool.false_and]

end Go.Proofs.Yteljibjbndpncaa
namespace Go.Proofs.Yteljibjbndpncaa
open Go.RowKit

/-- What ref07.Find answers. -/
def FindRes (l : List DComp) (s : List UInt8) (w : World) (e : Ending) (w' : World) : Prop := Below w.heap.size w w' ∧ ∃ (i : Nat) (b : Bool), e = .returned (.tuple #[.int .i64 i, .bool b]) ∧
  ((b = true ∧ (l.take i).all (fun y => decide (y.name ≠ s)) = true ∧ ∃ h : i < l.length, l[i].name = s) ∨ (b = false ∧ l.all (fun y => decide (y.name ≠ s)) = true))

set_option maxRecDepth 100000 in
set_option maxHeartbeats 4000000 in
/-- ref07.Find -/
theorem find_calls {Q : Nat → Prop} {w : World} {v : Value} {c : DConf} {s : List UInt8} (hx : rConf.val Q w v c) :
    Calls Try.prog 55 #[v, .string ⟨s.toArray⟩] w (FindRes c.comps s w) := by
  obtain ⟨A, cap, rfl, f0, f1, f2, f3, hc1, hc2, hA⟩ := rConf_val hx
  unfold maxLen at hc2
  have hlen : (c.comps.length : Int) ≤ 9223372036854775807 := by omega
  obtain ⟨W1, hW1⟩ : ∃ W1, w.alloc (.cells #[.int .i64 c.log, .int .i64 c.pages, .int .i64 c.entities, .int .i64 c.gens, .slice A c.comps.length cap] 49) = W1 := ⟨_, rfl⟩
  have hcell : W1.cell? ⟨w.heap.size, 4, none⟩ = some (.slice A c.comps.length cap) := by rw [← hW1]; simp
  have hbel : Below w.heap.size w W1 := by rw [← hW1]; exact (Below.refl _ _).alloc (Nat.le_refl _) _
  have hsz : W1.heap.size = w.heap.size + 1 := by rw [← hW1]; simp
  have HX := Lib.hid hA
  clear hx hA
  go_enter Try.func55, Try.ntmps55
  go_wp2_with fail
  try rw [hW1]
  clear hW1
  go_loopw [6] (fun i wr => ∃ k : Nat, i = .int .i64 k ∧ k ≤ c.comps.length ∧ Hid ((c.comps.take k).all (fun y => decide (y.name ≠ s)) = true) ∧ wr = W1)
    (fun i _ => c.comps.length - (intOf i).toNat)
  case atStart => exact ⟨0, rfl, by omega, rfl, rfl⟩
  case round =>
    obtain ⟨k, rfl, hk, hall, rfl⟩ := hrel
    by_cases hlt : (k : Int) < c.comps.length
    · have hk' : k < c.comps.length := by omega
      have hAw : rComp.At (fun b => b < w.heap.size) wr A c.comps := Rep.At.keep (w := w) (fun b _ hb => ⟨hb.lt, hbel.block b hb.lt⟩) HX.out
      obtain ⟨b, off, rfl, hb, cx0, cx1, g0, g1⟩ := rComp_at hAw (List.getElem?_eq_getElem hk')
      generalize hxx : c.comps[k] = x at *
      have HXX := Lib.hid hxx
      clear hxx hAw
      by_cases hq : x.name = s
      · have HQ := Lib.hid hq
        replace hq : (x.name == s) = true := by simp [hq]
        go_wp2_with fail
        go_ret2
        refine ⟨hbel, k, true, rfl, .inl ⟨rfl, hall, hk', by rw [HXX.out]; exact HQ.out⟩⟩
      · have HD := Lib.hid (show ((c.comps.take (k + 1)).all fun y => decide (y.name ≠ s)) = true from all_take_succ (p := fun y : DComp => decide (y.name ≠ s)) hk' hall (by rw [HXX.out]; simpa using hq))
        replace hq : (x.name == s) = false := by simpa using hq
        go_wp2_with fail
        exact ⟨⟨k + 1, by go_num, by omega, HD, trivial⟩, by simp [intOf]; omega⟩
    · obtain rfl : k = c.comps.length := by omega
      have HF := Lib.hid (show (c.comps.all fun y => decide (y.name ≠ s)) = true by have := hall.out; rwa [List.take_length] at this)
      clear hall
      go_wp2_with fail
      go_ret2
      exact ⟨hbel, 0, false, rfl, .inr ⟨rfl, HF.out⟩⟩

def muchConf (c : DConf) : Bool := (c.comps.take 50).any (fun y => decide (100 < y.name.length)) || decide (40 < c.comps.length)

set_option maxRecDepth 100000 in
set_option maxHeartbeats 4000000 in
/-- ref07.Much -/
theorem much_calls {Q : Nat → Prop} {w : World} {v : Value} {c : DConf} (hx : rConf.val Q w v c) :
    Calls Try.prog 20 #[v] w fun e w' => e = .returned (.bool (muchConf c)) ∧ Below w.heap.size w w' := by
  obtain ⟨A, cap, rfl, f0, f1, f2, f3, hc1, hc2, hA⟩ := rConf_val hx
  unfold maxLen at hc2
  have hlen : (c.comps.length : Int) ≤ 9223372036854775807 := by omega
  obtain ⟨W1, hW1⟩ : ∃ W1, w.alloc (.cells #[.int .i64 c.log, .int .i64 c.pages, .int .i64 c.entities, .int .i64 c.gens, .slice A c.comps.length cap] 49) = W1 := ⟨_, rfl⟩
  have hcell : W1.cell? ⟨w.heap.size, 4, none⟩ = some (.slice A c.comps.length cap) := by rw [← hW1]; simp
  have hbel : Below w.heap.size w W1 := by rw [← hW1]; exact (Below.refl _ _).alloc (Nat.le_refl _) _
  have hsz : W1.heap.size = w.heap.size + 1 := by rw [← hW1]; simp
  have HX := Lib.hid hA
  clear hx hA
  go_enter Try.func20, Try.ntmps20
  go_wp2_with fail
  try rw [hW1]
  clear hW1
  go_loopw [3] (fun i wr => ∃ k : Nat, i = .int .i64 k ∧ k ≤ c.comps.length ∧ k ≤ 50 ∧ Hid ((c.comps.take k).any (fun y => decide (100 < y.name.length)) = false) ∧ wr = W1)
    (fun i _ => c.comps.length - (intOf i).toNat)
  case atStart => exact ⟨0, rfl, by omega, by omega, rfl, rfl⟩
  case round =>
    obtain ⟨k, rfl, hk, hk50, hall, rfl⟩ := hrel
    by_cases hlt : (k : Int) < c.comps.length
    · have hk' : k < c.comps.length := by omega
      by_cases hlt5 : (k : Int) < 50
      · have hAw : rComp.At (fun b => b < w.heap.size) wr A c.comps := Rep.At.keep (w := w) (fun b _ hb => ⟨hb.lt, hbel.block b hb.lt⟩) HX.out
        obtain ⟨b, off, rfl, hb, cx0, cx1, g0, g1⟩ := rComp_at hAw (List.getElem?_eq_getElem hk')
        generalize hxx : c.comps[k] = x at *
        have HXX := Lib.hid hxx
        clear hxx hAw
        by_cases hq : (100 : Int) < x.name.length
        · have HR := Lib.hid (show muchConf c = true by
            unfold muchConf
            have : (c.comps.take 50).any (fun y => decide (100 < y.name.length)) = true := List.any_eq_true.2 ⟨x, List.mem_take_iff_getElem.2 ⟨k, by omega, HXX.out⟩, by simp; omega⟩
            rw [this]; rfl)
          go_wp2_with fail
          go_ret
          exact ⟨by rw [HR.out]; rfl, hbel⟩
        · have HD := Lib.hid (show (c.comps.take (k + 1)).any (fun y => decide (100 < y.name.length)) = false by
            rw [List.take_succ_eq_append_getElem hk', List.any_append, hall.out, HXX.out]; simp; omega)
          go_wp2_with fail
          exact ⟨⟨k + 1, by go_num, by omega, by omega, HD, trivial⟩, by simp [intOf]; omega⟩
      · have HR := Lib.hid (show muchConf c = true by unfold muchConf; rw [decide_eq_true (show 40 < c.comps.length by omega), Bool.or_true])
        have h40 : (40 : Int) < c.comps.length := by omega
        go_wp2_with fail
        go_ret
        exact ⟨by rw [HR.out]; rfl, hbel⟩
    · obtain rfl : k = c.comps.length := by omega
      have HR := Lib.hid (show muchConf c = decide ((40 : Int) < c.comps.length) by
        unfold muchConf
        have := hall.out
        rw [List.take_length] at this
        rw [List.take_of_length_le hk50, this, Bool.false_or]
        congr 1
        simp; omega)
      clear hall
      go_wp2_with fail
      go_ret
      exact ⟨by rw [HR.out]; rfl, hbel⟩
end Go.Proofs.Yteljibjbndpncaa
