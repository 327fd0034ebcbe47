/- The engine of the proofs, part U: what the reading of an argument tells of its bulk. No statement of the seat is proved here. -/
import Derived.Test.YthidohdnaeboaaaRows
import Derived.Test.YthidohdnaeboaaaEngR
namespace Go.Proofs.Ythidohdnaeboaaa
open Go

theorem bulk_one {H : Type} (d : DataW H) : 1 ≤ Rows.uptoBulk d := by
  cases d with
  | lit l => cases l <;> simp [Rows.uptoBulk]
  | nil => simp [Rows.uptoBulk]
  | ptr d => simp [Rows.uptoBulk]
  | slice elems spare => simp [Rows.uptoBulk]
  | agg parts => simp [Rows.uptoBulk]
  | iface t d => simp [Rows.uptoBulk]
  | map entries => simp [Rows.uptoBulk]
  | held h => simp [Rows.uptoBulk]
theorem bulk_part {H : Type} {d : DataW H} {l : List (DataW H)} (h : d ∈ l) : Rows.uptoBulk d ≤ Rows.uptoBulkAll l := by
  induction l with
  | nil => cases h
  | cons x r ih =>
    simp only [Rows.uptoBulkAll]
    rcases List.mem_cons.1 h with e | e
    · subst e; omega
    · have := ih e; omega
theorem bulk_length {H : Type} (l : List (DataW H)) : l.length ≤ Rows.uptoBulkAll l := by
  induction l with
  | nil => simp [Rows.uptoBulkAll]
  | cons x r ih => have := bulk_one x; simp only [Rows.uptoBulkAll, List.length_cons]; omega
theorem bulk_append {H : Type} (l r : List (DataW H)) : Rows.uptoBulkAll (l ++ r) = Rows.uptoBulkAll l + Rows.uptoBulkAll r := by
  induction l with
  | nil => simp [Rows.uptoBulkAll]
  | cons x l ih => simp only [List.cons_append, Rows.uptoBulkAll, ih]; omega

section
variable {H : Type} {enc : TypeId × Value → H} {P : Program} {w : World} {spare : Nat → Bool} {held : Bool}
theorem arr_of_trodU {t e sz fuel : Nat} {cs : List Value} {x : DataW H × List MemPlace} (ht : P.underlying t = some (.slice e)) (hsz : P.cellsOf e = sz) (h0 : 0 < sz) (h : DataW.trod enc P w 0 spare held fuel t cs = some x) :
    ∃ v n F, cs = [v] ∧ Arr w v sz n F ∧ n + 1 ≤ Rows.uptoBulk x.1 ∧ ∀ i, i < n → ∃ m y, DataW.trod enc P w 0 spare held m e (F i) = some y ∧ Rows.uptoBulk y.1 + 1 ≤ Rows.uptoBulk x.1 := by
  subst hsz
  rcases Go.Deep.open_slice ht h with ⟨rfl, rfl⟩ | ⟨a, len, cap, m, q, D, Pl, rfl, hb, hl, hm, hmm, rfl, hx⟩
  · exact ⟨_, 0, fun _ => [], rfl, ⟨none, 0, rfl, Nat.le_refl _, by omega, fun _ => ⟨rfl, rfl⟩, fun h => absurd h (Nat.lt_irrefl 0)⟩, bulk_one _, fun i hi => absurd hi (Nat.not_lt_zero _)⟩
  · have hle : len ≤ m := by rw [hmm]; split <;> omega
    have hbl : len + 1 ≤ Rows.uptoBulk (DataW.slice ((List.range len).map D) ((List.range (m - len)).map fun j => D (len + j))) := by
      have := bulk_length ((List.range len).map D)
      simp only [List.length_map, List.length_range] at this
      simp only [Rows.uptoBulk]
      omega
    have hbp : ∀ i, i < len → Rows.uptoBulk (D i) + 1 ≤ Rows.uptoBulk (DataW.slice ((List.range len).map D) ((List.range (m - len)).map fun j => D (len + j))) := by
      intro i hi
      have := bulk_part (l := (List.range len).map D) (List.mem_map.2 ⟨i, by simpa using hi, rfl⟩)
      simp only [Rows.uptoBulk]
      omega
    obtain ⟨F, hF⟩ := Go.Deep.choose_lt (α := List Value) (p := fun i cs' => w.cells? 0 (a.add (i * P.cellsOf e)) (P.cellsOf e) = some cs' ∧ DataW.trod enc P w 0 spare held q e cs' = some (D i, Pl i)) hx
    refine ⟨_, len, F, rfl, ⟨some a, cap, rfl, hl, by simp only [maxLen] at hm; omega, fun h => (nomatch h), fun hpos => ?_⟩, hbl, fun i hi => ⟨q, _, (hF i (by omega)).2, hbp i hi⟩⟩
    obtain ⟨hl0, hc0⟩ := cells?_spec (hF 0 (by omega)).1
    have hv : ∃ v, (F 0)[0]? = some v := by
      cases hF0 : F 0 with
      | nil => rw [hF0] at hl0; simp at hl0; omega
      | cons v r => exact ⟨v, rfl⟩
    obtain ⟨v, hv⟩ := hv
    have hcell := (hc0 0 h0).trans hv
    rw [Nat.zero_mul] at hcell
    have hcell : w.cell? a = some v := by simpa [Addr.add] using hcell
    obtain ⟨cells, T, fz, hheap, hspot, _⟩ := cell_plain hcell
    obtain ⟨b, off, spot⟩ := a
    dsimp only at hspot hheap
    subst hspot
    refine ⟨b, off, cells, T, fz, rfl, hheap, fun i hi => ?_⟩
    obtain ⟨hli, hci⟩ := cells?_spec (hF i (by omega)).1
    refine cs_of_get _ _ _ hli fun j hj => ?_
    have := hci j hj
    rw [Addr.add_lit, Addr.add_lit] at this
    rw [← this]
    simp [World.cell?, hheap]
theorem struct_of_trodU {t fuel : Nat} {fs : Array Field} {cs : List Value} {x : DataW H × List MemPlace} (ht : P.underlying t = some (.struct fs)) (h : DataW.trod enc P w 0 spare held fuel t cs = some x) :
    cs.length = P.cellsOf t ∧ ∀ (i : Nat) (f : Field), fs[i]? = some f → ∃ m y, DataW.trod enc P w 0 spare held m f.type ((cs.drop f.offset).take (P.cellsOf f.type)) = some y ∧ Rows.uptoBulk y.1 + 1 ≤ Rows.uptoBulk x.1 := by
  obtain ⟨xs, m, _, rfl, hl, hxs, hf⟩ := DataW.trod_struct ht h
  refine ⟨hl, fun i f hi => ?_⟩
  have hlt : i < xs.length := by rw [hxs]; exact (Array.getElem?_eq_some_iff.1 hi).1
  refine ⟨m, xs[i], by rw [hf i f hi, List.getElem?_eq_getElem hlt], ?_⟩
  have := bulk_part (l := xs.map (·.1)) (List.mem_map.2 ⟨xs[i], List.getElem_mem hlt, rfl⟩)
  simp only [Rows.uptoBulk]
  omega
end
section
variable {E : Env} {H : Type} {enc : TypeId × Value → H} {w : World} {spare : Nat → Bool} {held : Bool} {t fuel : Nat} {cs : List Value} {x : DataW H × List MemPlace} {ti : TyI}
theorem tarrU {el sz : Nat} (ht : nth E.T t = some (some ti)) (hd : ti.d = .slice el) (hsz : tySize E.T el = some sz) (h0 : Nat.blt 0 sz = true) (h : DataW.trod enc E.P w 0 spare held fuel t cs = some x) :
    ∃ v n F, cs = [v] ∧ Arr w v sz n F ∧ n + 1 ≤ Rows.uptoBulk x.1 ∧ ∀ i, i < n → ∃ m y, DataW.trod enc E.P w 0 spare held m el (F i) = some y ∧ Rows.uptoBulk y.1 + 1 ≤ Rows.uptoBulk x.1 := by
  obtain ⟨hg, _⟩ := E.ok t ti ht
  rw [hd] at hg
  exact arr_of_trodU hg (E.cells hsz) (by simpa using h0) h
theorem tstructU {fs : List (Nat × Nat)} (ht : nth E.T t = some (some ti)) (hd : ti.d = .agg fs) (h : DataW.trod enc E.P w 0 spare held fuel t cs = some x) :
    cs.length = ti.size ∧ ∀ (i off ty sz : Nat), nth fs i = some (off, ty) → tySize E.T ty = some sz → ∃ m y, DataW.trod enc E.P w 0 spare held m ty ((cs.drop off).take sz) = some y ∧ Rows.uptoBulk y.1 + 1 ≤ Rows.uptoBulk x.1 := by
  obtain ⟨hg, j, hj, hs, _⟩ := E.ok t ti ht
  rw [hd] at hg
  obtain ⟨fl, hu, hm⟩ := hg
  obtain ⟨hl, hf⟩ := struct_of_trodU hu h
  refine ⟨by rw [hl]; simp [Program.cellsOf, hj, hs], fun i off ty sz hi hty => ?_⟩
  rw [nth_eq, ← hm] at hi
  simp at hi
  obtain ⟨fd, h1, h2, h3⟩ := hi
  obtain ⟨m, y, h4, h5⟩ := hf i fd (by simpa using h1)
  rw [h2, h3, E.cells hty] at h4
  exact ⟨m, y, h4, h5⟩
end
end Go.Proofs.Ythidohdnaeboaaa
