/- The engine of the proofs, part W: what the reading of an argument tells of its size (the form's own reach). No statement of the seat is proved here. -/
import Derived.SizedLaws
import Derived.Test.YtaneenahapdabaaEngR
namespace Go.Proofs.Ytaneenahapdabaa
open Go

/-- All that is met is within the reach. -/
def Wt {H : Type} (P : Program) (t : TypeId) (d : DataW H) : Prop := ∀ n ∈ d.weights P t, n ≤ reachBytes
theorem weightsAll_mem {H : Type} {P : Program} {e : TypeId} {l : List (DataW H)} {d : DataW H} (h : d ∈ l) : ∀ n ∈ d.weights P e, n ∈ DataW.weightsAll P e l := by
  induction l with
  | nil => cases h
  | cons x r ih =>
    intro n hn
    simp only [DataW.weightsAll, List.mem_append]
    rcases List.mem_cons.1 h with e | e
    · subst e; exact .inl hn
    · exact .inr (ih e n hn)
theorem wt_arg {H : Type} {P : Program} {ts : List TypeId} {ds : List (DataW H)} (h : (DataW.weightsEach P ts ds).all (· ≤ reachBytes) = true) {j : Nat} {t : TypeId} {d : DataW H} (ht : ts[j]? = some t) (hd : ds[j]? = some d) : Wt P t d := fun n hn => by
  simpa using List.all_eq_true.1 h n (DataW.weights_mem_each ht hd n hn)

section
variable {H : Type} {enc : TypeId × Value → H} {P : Program} {w : World} {spare : Nat → Bool} {held : Bool}
theorem arr_of_trodW {t e sz fuel : Nat} {cs : List Value} {x : DataW H × List MemPlace} (ht : P.underlying t = some (.slice e)) (hsz : P.cellsOf e = sz) (h0 : 0 < sz) (hw : Wt P t x.1) (h : DataW.trod enc P w 0 spare held fuel t cs = some x) :
    ∃ v n F, cs = [v] ∧ Arr w v sz n F ∧ n * P.bytesOf e ≤ reachBytes ∧ ∀ i, i < n → ∃ m y, DataW.trod enc P w 0 spare held m e (F i) = some y ∧ Wt P e y.1 := by
  subst hsz
  rcases Go.Deep.open_slice ht h with ⟨rfl, rfl⟩ | ⟨a, len, cap, m, q, D, Pl, rfl, hb, hl, hm, hmm, rfl, hx⟩
  · exact ⟨_, 0, fun _ => [], rfl, ⟨none, 0, rfl, Nat.le_refl _, by omega, fun _ => ⟨rfl, rfl⟩, fun h => absurd h (Nat.lt_irrefl 0)⟩, by simp, fun i hi => absurd hi (Nat.not_lt_zero _)⟩
  · have hle : len ≤ m := by rw [hmm]; split <;> omega
    have hbl : len * P.bytesOf e ≤ reachBytes := by
      have := hw ((((List.range len).map D).length + ((List.range (m - len)).map fun j => D (len + j)).length) * P.bytesOf e) (by simp [DataW.weights, ht])
      refine Nat.le_trans (Nat.mul_le_mul_right _ ?_) this
      simp
    have hbp : ∀ i, i < len → Wt P e (D i) := by
      intro i hi n hn
      refine hw n ?_
      have := weightsAll_mem (P := P) (e := e) (l := (List.range len).map D) (List.mem_map.2 ⟨i, by simpa using hi, rfl⟩) n hn
      simp [DataW.weights, ht, this]
    obtain ⟨F, hF⟩ := Go.Deep.choose_lt (α := List Value) (p := fun i cs' => w.cells? 0 (a.add (i * P.cellsOf e)) (P.cellsOf e) = some cs' ∧ DataW.trod enc P w 0 spare held q e cs' = some (D i, Pl i)) hx
    refine ⟨_, len, F, rfl, ⟨some a, cap, rfl, hl, by simp only [maxLen] at hm; omega, fun h => (nomatch h), fun hpos => ?_⟩, hbl, fun i hi => ⟨q, _, (hF i (by omega)).2, hbp i hi⟩⟩
    obtain ⟨hl0, hc0⟩ := cells?_spec (hF 0 (by omega)).1
    have hv : ∃ v, (F 0)[0]? = some v := by
      cases hF0 : F 0 with
      | nil => rw [hF0] at hl0; simp at hl0; omega
      | cons v r => exact ⟨v, rfl⟩
    obtain ⟨v, hv⟩ := hv
    have hcell := (hc0 0 h0).trans hv
    rw [Nat.zero_mul] at hcell
    have hcell : w.cell? a = some v := by simpa [Addr.add] using hcell
    obtain ⟨cells, T, fz, hheap, hspot, _⟩ := cell_plain hcell
    obtain ⟨b, off, spot⟩ := a
    dsimp only at hspot hheap
    subst hspot
    refine ⟨b, off, cells, T, fz, rfl, hheap, fun i hi => ?_⟩
    obtain ⟨hli, hci⟩ := cells?_spec (hF i (by omega)).1
    refine cs_of_get _ _ _ hli fun j hj => ?_
    have := hci j hj
    rw [Addr.add_lit, Addr.add_lit] at this
    rw [← this]
    simp [World.cell?, hheap]
theorem struct_of_trodW {t fuel : Nat} {fs : Array Field} {cs : List Value} {x : DataW H × List MemPlace} (ht : P.underlying t = some (.struct fs)) (hw : Wt P t x.1) (h : DataW.trod enc P w 0 spare held fuel t cs = some x) :
    cs.length = P.cellsOf t ∧ ∀ (i : Nat) (f : Field), fs[i]? = some f → ∃ m y, DataW.trod enc P w 0 spare held m f.type ((cs.drop f.offset).take (P.cellsOf f.type)) = some y ∧ Wt P f.type y.1 := by
  obtain ⟨xs, m, _, rfl, hl, hxs, hf⟩ := DataW.trod_struct ht h
  refine ⟨hl, fun i f hi => ?_⟩
  have hlt : i < xs.length := by rw [hxs]; exact (Array.getElem?_eq_some_iff.1 hi).1
  refine ⟨m, xs[i], by rw [hf i f hi, List.getElem?_eq_getElem hlt], fun n hn => hw n ?_⟩
  have := DataW.weights_mem_each (P := P) (ts := fs.toList.map (·.type)) (ds := xs.map (·.1)) (j := i) (t := f.type) (d := xs[i].1) (by simp [hi]) (by simp [hlt]) n hn
  simpa [DataW.weights, ht] using this
end
section
variable {E : Env} {H : Type} {enc : TypeId × Value → H} {w : World} {spare : Nat → Bool} {held : Bool} {t fuel : Nat} {cs : List Value} {x : DataW H × List MemPlace} {ti : TyI}
theorem Env.bytesE {t by_ : Nat} {te : TyI} (h : nth E.T t = some (some te)) (hb : te.bytes = by_) : E.P.bytesOf t = by_ := by
  obtain ⟨_, i, hi, _, h2, _⟩ := E.ok t te h
  simp [Program.bytesOf, hi, h2, hb]
theorem tarrW {el sz : Nat} (ht : nth E.T t = some (some ti)) (hd : ti.d = .slice el) (hsz : tySize E.T el = some sz) (h0 : Nat.blt 0 sz = true) (hw : Wt E.P t x.1) (h : DataW.trod enc E.P w 0 spare held fuel t cs = some x) :
    ∃ v n F, cs = [v] ∧ Arr w v sz n F ∧ n * E.P.bytesOf el ≤ reachBytes ∧ ∀ i, i < n → ∃ m y, DataW.trod enc E.P w 0 spare held m el (F i) = some y ∧ Wt E.P el y.1 := by
  obtain ⟨hg, _⟩ := E.ok t ti ht
  rw [hd] at hg
  exact arr_of_trodW hg (E.cells hsz) (by simpa using h0) hw h
theorem tstructW {fs : List (Nat × Nat)} (ht : nth E.T t = some (some ti)) (hd : ti.d = .agg fs) (hw : Wt E.P t x.1) (h : DataW.trod enc E.P w 0 spare held fuel t cs = some x) :
    cs.length = ti.size ∧ ∀ (i off ty sz : Nat), nth fs i = some (off, ty) → tySize E.T ty = some sz → ∃ m y, DataW.trod enc E.P w 0 spare held m ty ((cs.drop off).take sz) = some y ∧ Wt E.P ty y.1 := by
  obtain ⟨hg, j, hj, hs, _⟩ := E.ok t ti ht
  rw [hd] at hg
  obtain ⟨fl, hu, hm⟩ := hg
  obtain ⟨hl, hf⟩ := struct_of_trodW hu hw h
  refine ⟨by rw [hl]; simp [Program.cellsOf, hj, hs], fun i off ty sz hi hty => ?_⟩
  rw [nth_eq, ← hm] at hi
  simp at hi
  obtain ⟨fd, h1, h2, h3⟩ := hi
  obtain ⟨m, y, h4, h5⟩ := hf i fd (by simpa using h1)
  rw [h2, h3, E.cells hty] at h4
  rw [h3] at h5
  exact ⟨m, y, h4, h5⟩
end
end Go.Proofs.Ytaneenahapdabaa
