/- The plain law of the orders: numbers rise; what may go shares no partition with what stands ahead of it. -/
import Derived.Test.YthidohdnaeboaaaO6
namespace Go.Proofs.Ythidohdnaeboaaa
open Go

structure LInv (n last : Int) (l : List Tk) : Prop where
  last0 : 0 ≤ last
  lastU : last ≤ 18446744073709551615
  len : l.length ≤ 4096
  id1 : ∀ i, i < l.length → 0 < (l.getD i tk0).id ∧ (l.getD i tk0).id ≤ last
  rise : ∀ i j, i < j → j < l.length → (l.getD i tk0).id < (l.getD j tk0).id
  can : ∀ i, i < l.length → canL n (l.getD i tk0).parts
theorem getD_app (l : List Tk) (t : Tk) (i : Nat) : (l ++ [t]).getD i tk0 = if i < l.length then l.getD i tk0 else if i = l.length then t else tk0 := by
  simp only [List.getD_eq_getElem?_getD]
  by_cases h : i < l.length
  · rw [if_pos h, List.getElem?_append_left h]
  · rw [if_neg h, List.getElem?_append_right (by omega)]
    by_cases h2 : i = l.length
    · subst h2; simp
    · rw [if_neg h2, List.getElem?_eq_none (by simp; omega)]; rfl
theorem getD_del (l : List Tk) (m i : Nat) : (l.eraseIdx m).getD i tk0 = if i < m then l.getD i tk0 else l.getD (i + 1) tk0 := by
  simp only [List.getD_eq_getElem?_getD, List.getElem?_eraseIdx]
  split <;> rfl
theorem LInv.nil (n : Int) : LInv n 0 [] := ⟨by omega, by omega, by simp, by simp, by simp, by simp⟩
theorem LInv.sub {n last : Int} {l : List Tk} (h : LInv n last l) (client seq : Int) (xs : List Int) : LInv n (subOut n last client seq xs l).2.2.1 (subOut n last client seq xs l).2.2.2 := by
  unfold subOut
  split
  · exact h
  · split
    · exact h
    · split
      · exact h
      · split
        · exact h
        · rename_i h1 h2 h3 h4
          have hcan : canL n xs := Classical.not_not.1 (fun hn => h1 (.inr hn))
          refine ⟨by have := h.last0; dsimp only; omega, by have := h.lastU; dsimp only; omega, by simp; omega, fun i hi => ?_, fun i j hij hj => ?_, fun i hi => ?_⟩
          · simp only [List.length_append, List.length_cons, List.length_nil] at hi
            rw [getD_app]
            split
            · have := h.id1 i (by assumption); dsimp only; omega
            · rw [if_pos (by omega)]; have := h.last0; dsimp only; omega
          · simp only [List.length_append, List.length_cons, List.length_nil] at hj
            rw [getD_app, getD_app, if_pos (by omega)]
            split
            · exact h.rise i j hij (by assumption)
            · rw [if_pos (by omega)]
              have := h.id1 i (by omega)
              dsimp only
              omega
          · simp only [List.length_append, List.length_cons, List.length_nil] at hi
            rw [getD_app]
            split
            · exact h.can i (by assumption)
            · rw [if_pos (by omega)]; exact hcan
theorem LInv.del {n last : Int} {l : List Tk} (h : LInv n last l) (m : Nat) (hm : m < l.length) : LInv n last (l.eraseIdx m) := by
  have hl : (l.eraseIdx m).length = l.length - 1 := by rw [List.length_eraseIdx, if_pos hm]
  refine ⟨h.last0, h.lastU, by have := h.len; omega, fun i hi => ?_, fun i j hij hj => ?_, fun i hi => ?_⟩
  · rw [getD_del]
    split
    · exact h.id1 i (by omega)
    · exact h.id1 (i + 1) (by omega)
  · rw [getD_del, getD_del]
    split
    · split
      · exact h.rise i j hij (by omega)
      · exact h.rise i (j + 1) (by omega) (by omega)
    · rw [if_neg (by omega)]
      exact h.rise (i + 1) (j + 1) (by omega) (by omega)
  · rw [getD_del]
    split
    · exact h.can i (by omega)
    · exact h.can (i + 1) (by omega)
/-- A ticket is found by its number. -/
theorem LInv.find {n last : Int} {l : List Tk} (h : LInv n last l) {i : Nat} (hi : i < l.length) : findL l (l.getD i tk0).id = i := by
  unfold findL
  exact fidx_some hi (by simp) (fun j hj => by have := h.rise j i hj hi; exact decide_eq_false (by omega))
/-- The places of what may go. -/
def goL (l : List Tk) : List Nat := (List.range l.length).filter (mayL l)
theorem ready_goL (l : List Tk) : readyTo l l.length = (goL l).map fun i => (l.getD i tk0).id := rfl
theorem goL_mem {l : List Tk} {i : Nat} (h : i ∈ goL l) : i < l.length ∧ mayL l i = true := by
  unfold goL at h
  simpa using h
theorem goL_lt {l : List Tk} {a b : Nat} (hab : a < b) (hb : b < (goL l).length) : (goL l)[a] < (goL l)[b] := by
  have h : (goL l).Pairwise (· < ·) := List.pairwise_lt_range.filter _
  exact List.pairwise_iff_getElem.1 h a b (by omega) hb hab
theorem mayL_zero (l : List Tk) : mayL l 0 = true := by
  unfold mayL
  simp
theorem goL_head {l : List Tk} (h : 0 < l.length) : ∃ r, goL l = 0 :: r := by
  obtain ⟨m, e⟩ : ∃ m, l.length = m + 1 := ⟨l.length - 1, by omega⟩
  refine ⟨((List.range m).map Nat.succ).filter (mayL l), ?_⟩
  unfold goL
  rw [e, List.range_succ_eq_map, List.filter_cons_of_pos (mayL_zero l)]
theorem mayL_apart {l : List Tk} {i k : Nat} (h : mayL l i = true) (hk : k < i) : ∀ p ∈ (l.getD k tk0).parts, p ∉ (l.getD i tk0).parts := by
  intro p hp hq
  unfold mayL at h
  simp only [Bool.not_eq_true', decide_eq_false_iff_not] at h
  exact h ⟨k, hk, List.any_eq_true.2 ⟨p, hp, by simpa using hq⟩⟩
theorem getD_mem {xs : List Int} {j : Nat} (h : j < xs.length) : xs.getD j 0 ∈ xs := by
  simp [List.getD_eq_getElem?_getD, h]
theorem mem_getD {xs : List Int} {p : Int} (h : p ∈ xs) : ∃ j, j < xs.length ∧ xs.getD j 0 = p := by
  obtain ⟨j, hj, e⟩ := List.getElem_of_mem h
  exact ⟨j, hj, by simp [List.getD_eq_getElem?_getD, hj, e]⟩
theorem canL_lt {n : Int} {xs : List Int} (h : canL n xs) {i j : Nat} (hij : i < j) (hj : j < xs.length) : xs.getD i 0 < xs.getD j 0 := by
  induction j with
  | zero => omega
  | succ j ih =>
    have h1 := (h.2 (j + 1) hj).2 (by omega)
    rw [Nat.add_sub_cancel] at h1
    by_cases e : i = j
    · subst e; exact h1
    · exact Int.lt_trans (ih (by omega) (by omega)) h1
end Go.Proofs.Ythidohdnaeboaaa
