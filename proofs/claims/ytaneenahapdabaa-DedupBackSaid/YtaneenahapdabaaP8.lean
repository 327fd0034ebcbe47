/- The plain law of a window: numbers rise, each call at most once, and what was said stays. -/
import Derived.Test.YtaneenahapdabaaP7
namespace Go.Proofs.Ytaneenahapdabaa
open Go

/-- A client's numbers rise, above the floor; what is known is what they name. -/
structure Ris (s : CS) : Prop where
  fl : 0 ≤ s.floor
  up : s.seqs.Pairwise (· < ·)
  low : ∀ x ∈ s.seqs, s.floor < x
  kn : ∀ x, (s.ans x).isSome = true ↔ x ∈ s.seqs
theorem Ris.zero : Ris cs0 := ⟨by simp [cs0], by simp [cs0], by simp [cs0], by simp [cs0]⟩
/-- The search in a list that rises. -/
theorem bsGo_spec (xs : List Int) (t : Int) (hs : xs.Pairwise (· < ·)) : ∀ k lo hi, lo ≤ hi → hi ≤ xs.length → hi - lo ≤ k → (∀ i, i < lo → xs.getD i 0 < t) → (∀ i, hi ≤ i → i < xs.length → t ≤ xs.getD i 0) →
    (∀ i, i < bsGo xs t k lo hi → xs.getD i 0 < t) ∧ ∀ i, bsGo xs t k lo hi ≤ i → i < xs.length → t ≤ xs.getD i 0 := by
  have hmono : ∀ i j, i ≤ j → j < xs.length → xs.getD i 0 ≤ xs.getD j 0 := by
    intro i j hij hj
    rcases Nat.lt_or_eq_of_le hij with h | h
    · have := List.pairwise_iff_getElem.1 hs i j (by omega) hj h
      simp only [List.getD_eq_getElem?_getD, List.getElem?_eq_getElem hj, List.getElem?_eq_getElem (show i < xs.length by omega), Option.getD_some]
      omega
    · subst h; omega
  intro k
  induction k with
  | zero =>
    intro lo hi h1 h2 h3 hl hh
    obtain rfl : lo = hi := by omega
    exact ⟨hl, hh⟩
  | succ k ih =>
    intro lo hi h1 h2 h3 hl hh
    unfold bsGo
    split
    · rename_i hlt
      split
      · rename_i hx
        refine ih _ _ (by omega) h2 (by omega) (fun i hi' => ?_) hh
        have := hmono i ((lo + hi) / 2) (by omega) (by omega)
        omega
      · rename_i hx
        refine ih _ _ (by omega) (by omega) (by omega) hl (fun i hi' hi2 => ?_)
        have := hmono ((lo + hi) / 2) i hi' hi2
        omega
    · obtain rfl : lo = hi := by omega
      exact ⟨hl, hh⟩
theorem bsL_spec (xs : List Int) (t : Int) (hs : xs.Pairwise (· < ·)) : (∀ x ∈ xs.take (bsL xs t), x < t) ∧ ∀ x ∈ xs.drop (bsL xs t), t ≤ x := by
  obtain ⟨h1, h2⟩ := bsGo_spec xs t hs xs.length 0 xs.length (by omega) (by omega) (by omega) (by intro i hi; omega) (by intro i h1 h2; omega)
  constructor
  · intro x hx
    obtain ⟨i, hi, e⟩ := List.getElem_of_mem hx
    have hi' : i < bsL xs t ∧ i < xs.length := by simpa [Nat.lt_min] using hi
    rw [List.getElem_take] at e
    have := h1 i hi'.1
    rw [List.getD_eq_getElem?_getD, List.getElem?_eq_getElem hi'.2, Option.getD_some, e] at this
    exact this
  · intro x hx
    obtain ⟨i, hi, e⟩ := List.getElem_of_mem hx
    have hi : i < xs.length - bsL xs t := by simpa using hi
    rw [List.getElem_drop] at e
    have := h2 (bsL xs t + i) (by unfold bsL; omega) (by omega)
    rw [List.getD_eq_getElem?_getD, List.getElem?_eq_getElem (by omega), Option.getD_some, e] at this
    exact this
theorem insL_mem {i : Nat} {x y : Int} {xs : List Int} : y ∈ insL i x xs ↔ y = x ∨ y ∈ xs := by
  unfold insL
  rw [List.mem_append, List.mem_cons]
  constructor
  · rintro (h | h | h)
    · exact .inr (List.mem_of_mem_take h)
    · exact .inl h
    · exact .inr (List.mem_of_mem_drop h)
  · rintro (h | h)
    · exact .inr (.inl h)
    · rw [← List.take_append_drop i xs] at h
      rcases List.mem_append.1 h with h | h
      · exact .inl h
      · exact .inr (.inr h)
theorem insL_up {x : Int} {xs : List Int} (h : xs.Pairwise (· < ·)) (hx : x ∉ xs) : (insL (bsL xs x) x xs).Pairwise (· < ·) := by
  obtain ⟨h1, h2⟩ := bsL_spec xs x h
  have h3 : xs.take (bsL xs x) ++ xs.drop (bsL xs x) = xs := List.take_append_drop _ _
  rw [← h3, List.pairwise_append] at h
  unfold insL
  rw [List.pairwise_append, List.pairwise_cons]
  refine ⟨h.1, ⟨fun y hy => ?_, h.2.1⟩, fun a ha b hb => ?_⟩
  · have := h2 y hy
    have : x ≠ y := fun e => hx (by rw [e]; exact List.mem_of_mem_drop hy)
    omega
  · rcases List.mem_cons.1 hb with rfl | hb
    · exact h1 a ha
    · exact h.2.2 a ha b hb
/-- Put keeps it. -/
theorem Ris.ins {s : CS} {seq : Int} {bs : List Int} {n : Int} (h : Ris s) (hf : s.floor < seq) (hk : s.ans seq = none) : Ris (insC n s seq bs) ∧ s.floor ≤ (insC n s seq bs).floor := by
  have hx : seq ∉ s.seqs := fun hm => by have := (h.kn seq).2 hm; rw [hk] at this; cases this
  have hu := insL_up h.up hx
  have hm : ∀ y, y ∈ insL (bsL s.seqs seq) seq s.seqs ↔ y = seq ∨ y ∈ s.seqs := fun y => insL_mem
  have hlow : ∀ y ∈ insL (bsL s.seqs seq) seq s.seqs, s.floor < y := fun y hy => by
    rcases (hm y).1 hy with rfl | hy
    · exact hf
    · exact h.low y hy
  have hkn : ∀ y, (updA s.ans seq (some bs) y).isSome = true ↔ y ∈ insL (bsL s.seqs seq) seq s.seqs := fun y => by
    rw [hm, updA]
    by_cases e : y = seq
    · simp [e]
    · simp [e, h.kn]
  generalize hQ : insL (bsL s.seqs seq) seq s.seqs = Q at *
  unfold insC
  rw [hQ]
  split
  · cases Q with
    | nil => exact absurd ((hm seq).2 (.inl rfl)) (by simp)
    | cons q r =>
      have hq := hlow q (by simp)
      have hr := List.pairwise_cons.1 hu
      refine ⟨⟨?_, hr.2, fun y hy => by simpa using hr.1 y hy, fun y => ?_⟩, ?_⟩
      · have := h.fl
        simp
        omega
      · dsimp only
        rw [updA]
        by_cases e : y = q
        · have : q ∉ r := fun hm => by have := hr.1 q hm; omega
          simp [e, this]
        · have := hkn y
          simp only [List.mem_cons, e, false_or] at this
          simpa [e] using this
      · simp
        omega
  · exact ⟨⟨h.fl, hu, hlow, hkn⟩, Int.le_refl _⟩
/-- What Put does to an answer: it stays, or falls under the floor. -/
theorem insC_stay {s : CS} {seq x : Int} {bs b : List Int} {n : Int} (h : x ≤ s.floor ∨ s.ans x = some b) (hx : x ≠ seq) (hr : Ris s) (hf : s.floor < seq) (hk : s.ans seq = none) : x ≤ (insC n s seq bs).floor ∨ (insC n s seq bs).ans x = some b := by
  have hfl := (hr.ins (n := n) (bs := bs) hf hk).2
  rcases h with h | h
  · exact .inl (by omega)
  · unfold insC
    split
    · by_cases e : x = (insL (bsL s.seqs seq) seq s.seqs).getD 0 0
      · exact .inl (by dsimp only; omega)
      · refine .inr ?_
        dsimp only
        rw [updA, if_neg e, updA, if_neg hx]
        exact h
    · refine .inr ?_
      dsimp only
      rw [updA, if_neg hx]
      exact h
theorem insC_new {s : CS} {seq : Int} {bs : List Int} {n : Int} : seq ≤ (insC n s seq bs).floor ∨ (insC n s seq bs).ans seq = some bs := by
  unfold insC
  split
  · by_cases e : seq = (insL (bsL s.seqs seq) seq s.seqs).getD 0 0
    · exact .inl (by dsimp only; omega)
    · refine .inr ?_
      dsimp only
      rw [updA, if_neg e, updA, if_pos rfl]
  · refine .inr ?_
    dsimp only
    rw [updA, if_pos rfl]
theorem insC_back {s : CS} {seq x : Int} {bs b : List Int} {n : Int} (h : (insC n s seq bs).ans x = some b) : (x = seq ∧ b = bs) ∨ s.ans x = some b := by
  have key : ∀ {b}, updA s.ans seq (some bs) x = some b → (x = seq ∧ b = bs) ∨ s.ans x = some b := by
    intro b hb
    rw [updA] at hb
    split at hb
    · cases hb; exact .inl ⟨by assumption, rfl⟩
    · exact .inr hb
  unfold insC at h
  split at h
  · dsimp only at h
    rw [updA] at h
    split at h
    · cases h
    · exact key h
  · exact key h
theorem insC_len {s : CS} {seq : Int} {bs : List Int} {n : Int} : (insC n s seq bs).seqs.length ≤ s.seqs.length + 1 := by
  have hl := insL_len (x := seq) (bsL_le s.seqs seq)
  unfold insC
  split
  · simp; omega
  · dsimp only; omega
end Go.Proofs.Ytaneenahapdabaa
