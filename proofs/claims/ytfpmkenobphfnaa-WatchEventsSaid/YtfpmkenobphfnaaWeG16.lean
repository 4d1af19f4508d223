/- Texts on which the proofs stand: SortIDs, NamesMath. No condition is laid on any input. -/
import Derived.Test.YtfpmkenobphfnaaWeCompactIDs
import Derived.Test.YtfpmkenobphfnaaWeRWatch
import Derived.Test.YtfpmkenobphfnaaSortShelf
/- The library's slices.SortFunc at names in a block of the call's own, then slices.Compact. -/
namespace Go.Proofs.Ytfpmkenobphfnaa
open Go.RowKit Go.Sort

def idEnc (x : DID) : List Value := [.int .i64 x.index, .int .i64 x.gen]
theorem idCmp_lt (x y : DID) : idCmp x y < 0 ↔ idLt x y := by
  unfold idCmp idLt orI cmpI
  by_cases h1 : x.index < y.index
  · simp [h1]
  · by_cases h2 : y.index < x.index
    · simp [h1, h2]; omega
    · have h3 : x.index = y.index := by omega
      by_cases h4 : x.gen < y.gen
      · simp [h3, h4]
      · by_cases h5 : y.gen < x.gen
        · simp [h3, h4, h5]
        · simp [h3, h4, h5]
theorem idLt_of (x y : DID) : Go.Proofs.ltOf idCmp x y = decide (idLt x y) := decide_eq_decide.2 (idCmp_lt x y)
theorem idLt_irrefl (x : DID) : ¬ idLt x x := by unfold idLt; omega
theorem idLt_trans {x y z : DID} (h1 : idLt x y) (h2 : idLt y z) : idLt x z := by unfold idLt at *; omega
theorem idLt_total {x y : DID} (h1 : ¬ idLt x y) (h2 : x ≠ y) : idLt y x := by
  unfold idLt at *
  by_cases h : x.index = y.index
  · have : x.gen ≠ y.gen := fun e => h2 (DID.ext h e)
    omega
  · omega
theorem idSwo : SWO (Go.Proofs.ltOf idCmp) where
  irrefl x := by rw [idLt_of]; exact decide_eq_false (idLt_irrefl x)
  trans x y z h1 h2 := by
    rw [idLt_of] at *
    exact decide_eq_true (idLt_trans (of_decide_eq_true h1) (of_decide_eq_true h2))
  ntrans x y z h1 h2 := by
    rw [idLt_of] at *
    have h1 := of_decide_eq_false h1
    have h2 := of_decide_eq_false h2
    refine decide_eq_false ?_
    unfold idLt at *
    omega

theorem idRow_holds {W : World} {g n : Nat} {d : Array DID} (h : IDRow W g n d) (hn : d.size = n) : HoldsK idEnc 2 W g 0 d := by
  intro j hj
  have hj2 : j < d.size * 2 := by simpa using hj
  obtain ⟨cur, h1, h2, _, h3⟩ := h.out
  obtain ⟨e0, e1⟩ := h3 (j / 2) (by omega)
  refine ⟨?_, by rw [Nat.zero_add]; exact frozen_row h1 _⟩
  rw [get_flatK _ _ _ _ hj2, Nat.zero_add, cell_of_row _ _ _ _ _ _ h1]
  have hm : j % 2 = 0 ∨ j % 2 = 1 := by omega
  rcases hm with hm | hm
  · rw [hm, show j = j / 2 * 2 by omega]
    have hq : (j / 2 * 2) / 2 = j / 2 := by omega
    rw [hq, e0]; rfl
  · rw [hm, show j = j / 2 * 2 + 1 by omega]
    have hq : (j / 2 * 2 + 1) / 2 = j / 2 := by omega
    rw [hq, e1]; rfl
theorem idRow_sorted {w : World} {g n m : Nat} {d d' : Array DID} {os : Array Obj} (h : IDRow w g n d) (hn : d.size = n) (hn' : d'.size = n) : IDRow (sortWorldK idEnc 2 w g 0 m d' os) g n d' := by
  have hg := h.lt
  have hh := holdsK_sortWorldK_c idEnc 2 w g 0 d d' m os (idRow_holds h hn) hg (by omega)
  obtain ⟨cur, h1, h2, _, h3⟩ := h.out
  have hb : (sortWorldK idEnc 2 w g 0 m d' os).heap[g]? = some (.cells (putCells id 0 (flatK idEnc 2 d') cur) 175 (0, 0)) := by
    unfold sortWorldK putRowK
    rw [heap_grow_old _ _ (by simpa using hg)]
    simp [putRow, mapBlock, Sort.ahead, Array.getElem?_modify, h1, onCells]
  refine ⟨_, hb, by simpa [putCells] using h2, hn', fun i hi => ?_⟩
  have c0 := (hh.cell (i := i) (c := 0) (by omega) (by omega)).1
  have c1 := (hh.cell (i := i) (c := 1) (by omega) (by omega)).1
  rw [cell_of_row _ _ _ _ _ _ hb] at c0 c1
  simp only [Nat.zero_add, Nat.add_zero] at c0 c1
  exact ⟨c0, c1⟩
theorem below_sorted {w : World} {g m base : Nat} {d' : Array DID} {os : Array Obj} (hb : base ≤ g) (hz : base ≤ w.heap.size) : Below base w (sortWorldK idEnc 2 w g 0 m d' os) := by
  refine ⟨rfl, rfl, rfl, by simp [sortWorldK, putRowK], fun k hk => ?_⟩
  unfold sortWorldK putRowK
  rw [heap_grow_old _ _ (by simpa using (show k < w.heap.size by omega))]
  have : g ≠ k := by omega
  simp [putRow, mapBlock, Sort.ahead, Array.getElem?_modify, this]
theorem run_enter_of {P : Program} {f : FuncId} {fn : Func} {c : Code} (hf : P.funcs[f]? = some fn) (hname : (fn.name == "runtime.NumGoroutine") = false) (hb : fn.body = some c) (args : Array Value) (w : World) : (callFunc f args).run P w = .ok (.enter f args) w := by
  have h1 : fn.name ≠ "runtime.NumGoroutine" := by simpa using hname
  simp [callFunc, hf, h1, hb]

theorem mem_ids {d d' : Array DID} (h : PermIn 0 d.size d d') : d'.toList.Perm d.toList := by
  obtain ⟨h1, _, h2⟩ := h
  have e1 : d.extract 0 d.size = d := by simp
  have e2 : d'.extract 0 d.size = d' := by rw [← h1]; simp
  rwa [e1, e2] at h2

/-- slices.SortFunc of names in a block of the call's own -/
theorem sortIDs_calls {base : Nat} {w : World} {g cap : Nat} {d : Array DID} (h : IDRow w g d.size d) (hb : base ≤ g) (hl : d.size ≤ 1000000000000) :
    Calls Try.prog 190 #[.slice (some ⟨g, 0, none⟩) d.size cap, .func (.func 191) #[] #[]] w fun e w' =>
      e = .returned (.tuple #[]) ∧ (∃ d' : Array DID, IDRow w' g d.size d' ∧ d'.size = d.size ∧ d'.toList.Perm d.toList ∧ d'.toList.Pairwise (fun x y => ¬ idLt y x)) ∧ Below base w w' := by
  refine (Try.slices_SortFunc 2 (fun w => by kernel_rfl) (fun w => by kernel_rfl) idEnc (fun _ => rfl) (fun x v hv => ?_) idCmp idSwo 191 #[] g 0 cap d w ?_ ?_ (idRow_holds h rfl) h.lt (by omega)).mono ?_
  · simp only [idEnc, List.mem_cons, List.not_mem_nil, or_false] at hv
    rcases hv with rfl | rfl <;> rfl
  · intro args w'
    exact run_enter_of (c := _) Try.func191 (by kernel_rfl) (by exact rfl) args w'
  · intro m os dk _ x y
    exact idCmp_calls x y _
  · rintro e w' ⟨rfl, d', n, os, hp, hs, rfl⟩
    have hsz : d'.size = d.size := hp.1
    refine ⟨rfl, ⟨d', idRow_sorted h rfl hsz, hsz, mem_ids hp, ?_⟩, below_sorted hb (Nat.le_trans hb (Nat.le_of_lt h.lt))⟩
    rw [List.pairwise_iff_getElem]
    intro i j hi hj hij
    have := hs i j (Nat.zero_le _) hij (by simpa [← hsz] using hj)
    rw [idLt_of] at this
    have := of_decide_eq_false this
    simpa [getElem!_pos, show i < d'.size by simpa using hi, show j < d'.size by simpa using hj] using this
end Go.Proofs.Ytfpmkenobphfnaa
/- Names, sorted and once each: the plain law; and how a slice of them lies. -/
namespace Go.Proofs.Ytfpmkenobphfnaa
open Go.RowKit Go.Sort

theorem compact_ids {d : Array DID} (hs : d.toList.Pairwise (fun x y => ¬ idLt y x)) : ∀ m, m ≤ d.size →
    (Lib.compactUpTo d m).Pairwise idLt ∧ ∀ x, x ∈ Lib.compactUpTo d m ↔ ∃ j, j < m ∧ d[j]? = some x
  | 0, _ => ⟨by simp [Lib.compactUpTo], by simp [Lib.compactUpTo]⟩
  | m + 1, hm => by
    obtain ⟨h1, h2⟩ := compact_ids hs m (by omega)
    have hst : ∀ (i j : Nat) (x y : DID), i < j → d[i]? = some x → d[j]? = some y → ¬ idLt y x := by
      intro i j x y hij hx hy
      obtain ⟨hi, rfl⟩ := Array.getElem?_eq_some_iff.1 hx
      obtain ⟨hj, rfl⟩ := Array.getElem?_eq_some_iff.1 hy
      have := List.pairwise_iff_getElem.1 hs i j (by simpa using hi) (by simpa using hj) hij
      simpa using this
    have hg : d[m]? = some d[m]! := by rw [getElem!_pos d m (by omega)]; exact Array.getElem?_eq_getElem (by omega)
    rw [Lib.compactUpTo_succ]
    cases hk : Lib.keeps d m with
    | true =>
      rw [if_pos rfl]
      constructor
      · rw [List.pairwise_append]
        refine ⟨h1, List.pairwise_singleton _ _, fun x hx y hy => ?_⟩
        obtain rfl := List.mem_singleton.1 hy
        obtain ⟨j, hj, hjx⟩ := (h2 x).1 hx
        refine idLt_total (hst j m x _ hj hjx hg) (fun e => ?_)
        have hk2 := of_decide_eq_true hk
        rcases hk2 with h0 | hne
        · omega
        · have hp : d[m - 1]? = some d[m - 1]! := by rw [getElem!_pos d (m - 1) (by omega)]; exact Array.getElem?_eq_getElem (by omega)
          by_cases hjm : j = m - 1
          · subst hjm
            rw [hp] at hjx
            exact hne (by rw [Option.some.inj hjx, e])
          · have a1 := hst j (m - 1) x _ (by omega) hjx hp
            have a2 := hst (m - 1) m _ _ (by omega) hp hg
            rw [e] at a2
            refine hne ?_
            rw [e]
            by_cases hxe : x = d[m - 1]!
            · exact hxe
            · exact absurd (idLt_total a1 (fun h => hxe h.symm)) a2
      · intro x
        rw [List.mem_append, h2, List.mem_singleton]
        constructor
        · rintro (⟨j, hj, h⟩ | rfl)
          · exact ⟨j, by omega, h⟩
          · exact ⟨m, by omega, hg⟩
        · rintro ⟨j, hj, h⟩
          rcases Nat.lt_or_ge j m with hlt | hge
          · exact .inl ⟨j, hlt, h⟩
          · have : j = m := by omega
            subst this
            rw [hg] at h
            exact .inr (Option.some.inj h).symm
    | false =>
      simp only [Bool.false_eq_true, if_false, List.append_nil]
      refine ⟨h1, fun x => ?_⟩
      rw [h2]
      constructor
      · rintro ⟨j, hj, h⟩
        exact ⟨j, by omega, h⟩
      · rintro ⟨j, hj, h⟩
        rcases Nat.lt_or_ge j m with hlt | hge
        · exact ⟨j, hlt, h⟩
        · have : j = m := by omega
          subst this
          have hm0 : j ≠ 0 := by rintro rfl; simp [Lib.keeps] at hk
          have he : d[j]! = d[j - 1]! := by
            unfold Lib.keeps at hk
            have := of_decide_eq_false hk
            exact Decidable.byContradiction fun hne => this (.inr hne)
          refine ⟨j - 1, by omega, ?_⟩
          rw [hg, he] at h
          rw [← h, getElem!_pos d (j - 1) (by omega)]
          exact Array.getElem?_eq_getElem (by omega)
theorem compact_ids_all {d : Array DID} (hs : d.toList.Pairwise (fun x y => ¬ idLt y x)) : (Lib.compactUpTo d d.size).Pairwise idLt ∧ ∀ x, x ∈ Lib.compactUpTo d d.size ↔ x ∈ d.toList := by
  obtain ⟨h1, h2⟩ := compact_ids hs d.size (Nat.le_refl _)
  refine ⟨h1, fun x => ?_⟩
  rw [h2]
  constructor
  · rintro ⟨j, hj, h⟩
    exact List.mem_of_getElem? (by rw [Array.getElem?_toList]; exact h)
  · intro h
    obtain ⟨j, hj, rfl⟩ := List.getElem_of_mem h
    exact ⟨j, by simpa using hj, by simp⟩
/-- Two lists in strict order with the same members are one. -/
theorem strict_same : ∀ {l m : List DID}, l.Pairwise idLt → m.Pairwise idLt → (∀ x, x ∈ l ↔ x ∈ m) → l = m
  | [], [], _, _, _ => rfl
  | [], y :: m, _, _, h => by have := (h y).2 (by simp); simp at this
  | x :: l, [], _, _, h => by have := (h x).1 (by simp); simp at this
  | x :: l, y :: m, hl, hm, h => by
    obtain ⟨a1, a2⟩ := List.pairwise_cons.1 hl
    obtain ⟨b1, b2⟩ := List.pairwise_cons.1 hm
    have hxy : x = y := by
      rcases List.mem_cons.1 ((h x).1 (by simp)) with e | e
      · exact e
      · rcases List.mem_cons.1 ((h y).2 (by simp)) with f | f
        · exact f.symm
        · exact absurd (idLt_trans (b1 x e) (a1 y f)) (idLt_irrefl _)
    subst hxy
    rw [strict_same a2 b2 fun z => ?_]
    constructor
    · intro hz
      rcases List.mem_cons.1 ((h z).1 (List.mem_cons_of_mem _ hz)) with e | e
      · subst e; exact absurd (a1 z hz) (idLt_irrefl _)
      · exact e
    · intro hz
      rcases List.mem_cons.1 ((h z).2 (List.mem_cons_of_mem _ hz)) with e | e
      · subst e; exact absurd (b1 z hz) (idLt_irrefl _)
      · exact e

def IDwf (x : DID) : Prop := (Lit.int .i64 x.index).wf = true ∧ (Lit.int .i64 x.gen).wf = true
theorem id_row {Q : Nat → Prop} {w : World} : ∀ {xs : List DID} {cs : List Value}, rID.row Q w cs xs → cs.length = 2 * xs.length ∧ (∀ x ∈ xs, IDwf x) ∧ ∀ i x, xs[i]? = some x → cs[i * 2]? = some (.int .i64 x.index) ∧ cs[i * 2 + 1]? = some (.int .i64 x.gen)
  | [], cs, h => by
    have h : cs = [] := h
    subst h
    exact ⟨rfl, (fun x hx => nomatch hx), fun i x hx => by simp at hx⟩
  | x :: xs, cs, h => by
    obtain ⟨es, rest, rfl, h1, h2⟩ := h
    obtain ⟨rfl, f0, f1⟩ := rID_open h1
    obtain ⟨a, b, c⟩ := id_row h2
    refine ⟨by simp [a]; omega, fun y hy => (List.mem_cons.1 hy).elim (fun e => e ▸ ⟨f0, f1⟩) (b y), fun i y hy => ?_⟩
    cases i with
    | zero =>
      have e : x = y := by simpa using hy
      subst e
      exact ⟨rfl, rfl⟩
    | succ i =>
      obtain ⟨e0, e1⟩ := c i y (by simpa using hy)
      rw [show (i + 1) * 2 = i * 2 + 1 + 1 by omega]
      exact ⟨by simpa using e0, by simpa using e1⟩
theorem id_row_mk {Q : Nat → Prop} {w : World} : ∀ {xs : List DID}, (∀ x ∈ xs, IDwf x) → rID.row Q w (xs.flatMap idEnc) xs
  | [], _ => rfl
  | x :: xs, h => ⟨idEnc x, _, by simp, rID_mk (h x (by simp)).1 (h x (by simp)).2, id_row_mk fun y hy => h y (by simp [hy])⟩
theorem flat_cell : ∀ {xs : List DID} {j : Nat} {u : Value}, (xs.flatMap idEnc)[j]? = some u → ∃ i x, xs[i]? = some x ∧ ((j = i * 2 ∧ u = .int .i64 x.index) ∨ (j = i * 2 + 1 ∧ u = .int .i64 x.gen))
  | [], _, _, h => by simp at h
  | x :: xs, j, u, h => by
    rw [List.flatMap_cons] at h
    match j, h with
    | 0, h => exact ⟨0, x, rfl, .inl ⟨rfl, by simpa [idEnc] using h.symm⟩⟩
    | 1, h => exact ⟨0, x, rfl, .inr ⟨rfl, by simpa [idEnc] using h.symm⟩⟩
    | j + 2, h =>
      have h' : (xs.flatMap idEnc)[j]? = some u := by simpa [idEnc] using h
      obtain ⟨i, y, hy, hc⟩ := flat_cell h'
      refine ⟨i + 1, y, by simpa using hy, ?_⟩
      rcases hc with ⟨rfl, rfl⟩ | ⟨rfl, rfl⟩
      · exact .inl ⟨by omega, rfl⟩
      · exact .inr ⟨by omega, rfl⟩
/-- Names in a block, read as0 a slice. -/
theorem idRow_val {Q : Nat → Prop} {W : World} {g n cap : Nat} {d : Array DID} (h : IDRow W g n d) (hQ : Q g) (hn : n ≤ cap) (hm : cap ≤ maxLen) (hw : ∀ x ∈ d.toList, IDwf x) : rID.list.val Q W (.slice (some ⟨g, 0, none⟩) n cap) d.toList := by
  obtain ⟨cur, h1, h2, hs, h3⟩ := h.out
  refine Rep.list_val (by simpa using hs.symm) hn hm ⟨_, id_row_mk hw, fun _ => ⟨g, 0, rfl, hQ, ⟨_, _, _, h1⟩, fun j u hj => ?_⟩⟩
  obtain ⟨i, x, hx, hc⟩ := flat_cell hj
  rw [cell_of_row _ _ _ _ _ _ h1, Nat.zero_add]
  rw [Array.getElem?_toList] at hx
  obtain ⟨hi, rfl⟩ := Array.getElem?_eq_some_iff.1 hx
  obtain ⟨e0, e1⟩ := h3 i (by omega)
  rw [getElem!_pos d i hi] at e0 e1
  rcases hc with ⟨rfl, rfl⟩ | ⟨rfl, rfl⟩
  · exact e0
  · exact e1
/-- A slice of names of the call's own: nothing, or a block. -/
theorem idRow_of {base : Nat} {Q : Nat → Prop} {w : World} {v : Value} {xs : List DID} (h : rID.acc 175 base Q w v xs) :
    (v = .slice none 0 0 ∧ xs = []) ∨ ∃ g cap, v = .slice (some ⟨g, 0, none⟩) xs.toArray.size cap ∧ base ≤ g ∧ xs.toArray.size ≤ cap ∧ cap ≤ maxLen ∧ IDRow w g xs.toArray.size xs.toArray ∧ ∀ x ∈ xs, IDwf x := by
  obtain ⟨cells, h1, h2⟩ := h
  obtain ⟨a, b, c⟩ := id_row h2
  rcases h1.2 with ⟨rfl, h0⟩ | ⟨g, cap, cur, rfl, hb, hg, g1, g2, g3, g4⟩
  · exact .inl ⟨rfl, List.eq_nil_of_length_eq_zero (by omega)⟩
  · have g3 : cur.size = cap * 2 := g3
    have g4 : cur.toList.take (xs.length * 2) = cells := g4
    refine .inr ⟨g, cap, by simp, hb, by simpa using g1, g2, ⟨cur, hg, by simp; omega, rfl, fun i hi => ?_⟩, b⟩
    have hi : i < xs.length := by simpa using hi
    obtain ⟨e0, e1⟩ := c i xs[i] (List.getElem?_eq_getElem hi)
    rw [← g4, List.getElem?_take_of_lt (by omega), Array.getElem?_toList] at e0 e1
    simp only [List.getElem!_toArray, getElem!_pos xs i hi]
    exact ⟨e0, e1⟩

set_option maxRecDepth 100000 in
/-- slices.Compact of no name -/
theorem compactNil_calls (w : World) : Calls Try.prog 192 #[.slice none 0 0] w fun e w' => e = .returned (.slice none 0 0) ∧ w' = w := by
  go_enter Try.func192, Try.ntmps192
  go_wp2_with fail
  go_ret
  exact ⟨rfl, rfl⟩
end Go.Proofs.Ytfpmkenobphfnaa
