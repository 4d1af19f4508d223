/- A struct's reading as data is this word's. -/
import Derived.Test.YtecdbfbaclgejaaFrame
import Derived.Test.YtecdbfbaclgejaaTypes
namespace Go.Proofs.Ytecdbfbaclgejaa
open Go.ChangeShapes Go.WideShapes Go.ChangeAt Go.RowKit
namespace Rep

/-- Fields, one behind the other, from the offset o on. -/
def Fields {α : Type} (r : Rep α) (P : Program) (fs : List Field) (o : Nat) : Prop :=
  (∀ f ∈ fs, o ≤ f.offset) ∧ ∀ (H : Type) (enc : TypeId × Value → H) (w : World) (n : Nat) (cs : List Value), cs.length = r.size →
    (∀ f ∈ fs, ∃ x, DataW.trod enc P w 0 (fun _ => true) true n f.type ((cs.drop (f.offset - o)).take (P.cellsOf f.type)) = some x) → ∃ y, r.rd (fun _ => True) w cs y

theorem fields_one {α : Type} {r : Rep α} {P : Program} {f : Field} {o : Nat} (ho : f.offset = o) (h : r.Of P f.type) : r.Fields P [f] o :=
  ⟨(fun g hg => by
    have : g = f := by simpa using hg
    rw [this]; omega), fun H enc w n cs hl hf => by
    obtain ⟨x, hx⟩ := hf f (by simp)
    rw [ho, Nat.sub_self, List.drop_zero, h.1, ← hl, List.take_length] at hx
    exact h.2 H enc w n cs x hx⟩
theorem fields_cons {α β : Type} {r : Rep α} {s : Rep β} {P : Program} {f : Field} {fs : List Field} {o : Nat} (ho : f.offset = o) (h : r.Of P f.type) (hs : s.Fields P fs (o + r.size)) : (r.pair s).Fields P (f :: fs) o :=
  ⟨(fun g hg => by
    rcases List.mem_cons.1 hg with rfl | hg
    · omega
    · have := hs.1 g hg; omega), fun H enc w n cs hl hf => by
    have hl' : cs.length = r.size + s.size := hl
    obtain ⟨x, hx⟩ := hf f (by simp)
    rw [ho, Nat.sub_self, List.drop_zero, h.1] at hx
    obtain ⟨y, hy⟩ := h.2 H enc w n _ x hx
    obtain ⟨z, hz⟩ := hs.2 H enc w n (cs.drop r.size) (by rw [List.length_drop]; omega) (fun g hg => by
      obtain ⟨x', hx'⟩ := hf g (by simp [hg])
      refine ⟨x', ?_⟩
      have := hs.1 g hg
      rw [List.drop_drop, show r.size + (g.offset - (o + r.size)) = g.offset - o by omega]
      exact hx')
    exact ⟨(y, z), cs.take r.size, cs.drop r.size, (List.take_append_drop _ _).symm, hy, hz⟩⟩

theorem of_struct {α β : Type} {r : Rep α} {P : Program} {t : TypeId} {fs : Array Field} (f : β → α) (g : α → β) (hfg : ∀ x, f (g x) = x) (ht : P.underlying t = some (.struct fs)) (hc : P.cellsOf t = r.size) (h : r.Fields P fs.toList 0) : (r.iso f).Of P t :=
  ⟨hc, fun H enc w fuel cs x hx => by
    obtain ⟨xs, n, _, rfl, hl, hlen, hf⟩ := DataW.trod_struct ht hx
    obtain ⟨y, hy⟩ := h.2 H enc w n cs (by rw [hl, hc]) (fun fd hfd => by
      obtain ⟨i, hi, rfl⟩ := List.getElem_of_mem hfd
      have hi' : i < fs.size := by simpa using hi
      have := hf i fs[i] (by simp [hi'])
      refine ⟨xs[i]'(by omega), ?_⟩
      simp only [Nat.sub_zero, Array.getElem_toList]
      rw [this]
      simp)
    exact ⟨g y, by show r.rd _ _ _ (f (g y)); rw [hfg]; exact hy⟩⟩
end Rep
theorem of_ID : rID.Of Try.prog 36 :=
  Rep.of_struct _ (fun x => ⟨x.1, x.2⟩) (fun _ => rfl) Try.underlying36 (by kernel_rfl) (Rep.fields_cons rfl (Rep.of_int Try.underlying3 (by kernel_rfl)) (Rep.fields_one rfl (Rep.of_int Try.underlying3 (by kernel_rfl))))
theorem of_Part : rPart.Of Try.prog 143 :=
  Rep.of_struct _ (fun x => ⟨x.1, x.2⟩) (fun _ => rfl) Try.underlying143 (by kernel_rfl) (Rep.fields_cons rfl (Rep.of_int Try.underlying3 (by kernel_rfl)) (Rep.fields_one rfl (Rep.of_list Try.underlying22 (by kernel_rfl) (by decide) (Rep.of_byte Try.underlying5 (by kernel_rfl)))))
theorem of_Ent : rEnt.Of Try.prog 39 :=
  Rep.of_struct _ (fun x => ⟨x.1, x.2⟩) (fun _ => rfl) Try.underlying39 (by kernel_rfl) (Rep.fields_cons rfl of_ID (Rep.fields_one rfl (Rep.of_list Try.underlying37 (by kernel_rfl) (by decide) of_Part)))
theorem of_State : rState.Of Try.prog 33 :=
  Rep.of_struct _ (fun x => ⟨x.1, x.2.1, x.2.2⟩) (fun _ => rfl) Try.underlying33 (by kernel_rfl) (Rep.fields_cons rfl (Rep.of_list Try.underlying30 (by kernel_rfl) (by decide) (Rep.of_int Try.underlying3 (by kernel_rfl))) (Rep.fields_cons rfl (Rep.of_list Try.underlying30 (by kernel_rfl) (by decide) (Rep.of_int Try.underlying3 (by kernel_rfl))) (Rep.fields_one rfl (Rep.of_list Try.underlying31 (by kernel_rfl) (by decide) of_Ent))))
theorem of_Term : rTerm.Of Try.prog 41 :=
  Rep.of_struct _ (fun x => ⟨x.1, x.2.1, x.2.2⟩) (fun _ => rfl) Try.underlying41 (by kernel_rfl) (Rep.fields_cons rfl (Rep.of_int Try.underlying3 (by kernel_rfl)) (Rep.fields_cons rfl (Rep.of_int Try.underlying3 (by kernel_rfl)) (Rep.fields_one rfl (Rep.of_list Try.underlying22 (by kernel_rfl) (by decide) (Rep.of_byte Try.underlying5 (by kernel_rfl))))))
theorem of_Comp : rComp.Of Try.prog 167 :=
  Rep.of_struct _ (fun x => ⟨x.1, x.2⟩) (fun _ => rfl) Try.underlying167 (by kernel_rfl) (Rep.fields_cons rfl (Rep.of_text Try.underlying9 (by kernel_rfl)) (Rep.fields_one rfl (Rep.of_int Try.underlying3 (by kernel_rfl))))
theorem of_Conf : rConf.Of Try.prog 88 :=
  Rep.of_struct _ (fun x => ⟨x.1, x.2.1, x.2.2.1, x.2.2.2.1, x.2.2.2.2⟩) (fun _ => rfl) Try.underlying88 (by kernel_rfl) (Rep.fields_cons rfl (Rep.of_int Try.underlying3 (by kernel_rfl)) (Rep.fields_cons rfl (Rep.of_int Try.underlying3 (by kernel_rfl)) (Rep.fields_cons rfl (Rep.of_int Try.underlying3 (by kernel_rfl)) (Rep.fields_cons rfl (Rep.of_int Try.underlying3 (by kernel_rfl)) (Rep.fields_one rfl (Rep.of_list Try.underlying86 (by kernel_rfl) (by decide) of_Comp))))))
theorem of_Key : rKey.Of Try.prog 69 :=
  Rep.of_struct _ (fun x => ⟨x.1, x.2.1, x.2.2⟩) (fun _ => rfl) Try.underlying69 (by kernel_rfl) (Rep.fields_cons rfl (Rep.of_int Try.underlying3 (by kernel_rfl)) (Rep.fields_cons rfl (Rep.of_int Try.underlying44 (by kernel_rfl)) (Rep.fields_one rfl (Rep.of_int Try.underlying3 (by kernel_rfl)))))
theorem of_Stream : rStream.Of Try.prog 73 :=
  Rep.of_struct _ (fun x => ⟨x.1, x.2⟩) (fun _ => rfl) Try.underlying73 (by kernel_rfl) (Rep.fields_cons rfl of_Key (Rep.fields_one rfl (Rep.of_list Try.underlying22 (by kernel_rfl) (by decide) (Rep.of_byte Try.underlying5 (by kernel_rfl)))))
theorem of_Flow : rFlow.Of Try.prog 71 :=
  Rep.of_struct _ (fun x => ⟨x.1, x.2.1, x.2.2⟩) (fun _ => rfl) Try.underlying71 (by kernel_rfl) (Rep.fields_cons rfl of_Key (Rep.fields_cons rfl (Rep.of_list Try.underlying22 (by kernel_rfl) (by decide) (Rep.of_byte Try.underlying5 (by kernel_rfl))) (Rep.fields_one rfl (Rep.of_list Try.underlying30 (by kernel_rfl) (by decide) (Rep.of_int Try.underlying3 (by kernel_rfl))))))
theorem of_Entry : rEntry.Of Try.prog 83 :=
  Rep.of_struct _ (fun x => ⟨x.1, x.2.1, x.2.2⟩) (fun _ => rfl) Try.underlying83 (by kernel_rfl) (Rep.fields_cons rfl of_Key (Rep.fields_cons rfl (Rep.of_int Try.underlying3 (by kernel_rfl)) (Rep.fields_one rfl (Rep.of_list Try.underlying30 (by kernel_rfl) (by decide) (Rep.of_int Try.underlying3 (by kernel_rfl))))))
theorem of_Policy : rPolicy.Of Try.prog 96 :=
  Rep.of_struct _ (fun x => ⟨x.1, x.2⟩) (fun _ => rfl) Try.underlying96 (by kernel_rfl) (Rep.fields_cons rfl (Rep.of_int Try.underlying3 (by kernel_rfl)) (Rep.fields_one rfl (Rep.of_int Try.underlying3 (by kernel_rfl))))
theorem of_Cmd : rCmd.Of Try.prog 179 :=
  Rep.of_struct _ (fun x => ⟨x.1, x.2.1, x.2.2.1, x.2.2.2.1, x.2.2.2.2⟩) (fun _ => rfl) Try.underlying179 (by kernel_rfl) (Rep.fields_cons rfl (Rep.of_int Try.underlying3 (by kernel_rfl)) (Rep.fields_cons rfl (Rep.of_bool Try.underlying4 (by kernel_rfl)) (Rep.fields_cons rfl of_ID (Rep.fields_cons rfl (Rep.of_int Try.underlying3 (by kernel_rfl)) (Rep.fields_one rfl (Rep.of_list Try.underlying22 (by kernel_rfl) (by decide) (Rep.of_byte Try.underlying5 (by kernel_rfl))))))))
end Go.Proofs.Ytecdbfbaclgejaa
