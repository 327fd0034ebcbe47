/- Layer 20's bytes, plain: what is spoilt or cut short is refused. No program in sight. -/
import Derived.Test.YtaneenahapdabaaST
namespace Go.Proofs.Ytaneenahapdabaa
open Go

theorem odd_inj (p q c M a b : Nat) (h : p * q = c * M + 1) (ha : a < M) (hb : b < M) (he : a * p % M = b * p % M) : a = b := by
  have key : ∀ x, x < M → x * p % M * q % M = x := fun x hx => by
    rw [Nat.mod_mul_mod, Nat.mul_assoc, h, Nat.mul_add, Nat.mul_one, ← Nat.mul_assoc, Nat.mul_add_mod_self_right]
    exact Nat.mod_eq_of_lt hx
  rw [← key a ha, ← key b hb, he]
theorem prime_inv : 1099511628211 * 14886173955864302971 = 887285111055 * 18446744073709551616 + 1 := by decide +kernel
theorem fnvS_inj (h h' : Nat) (x y : Nat) (hh : h < 18446744073709551616) (hh' : h' < 18446744073709551616) (hx : x ≤ 255) (hy : y ≤ 255) (he : fnvS h (x : Int) = fnvS h' (y : Int)) : h ^^^ x = h' ^^^ y := by
  rw [fnvS_nat, fnvS_nat] at he
  exact odd_inj _ _ _ _ _ _ prime_inv (Nat.xor_lt_two_pow (n := 64) hh (by omega)) (Nat.xor_lt_two_pow (n := 64) hh' (by omega)) he
theorem fnv_apart (l : List Int) (hl : Byt l) : ∀ h h' : Nat, h < 18446744073709551616 → h' < 18446744073709551616 → h ≠ h' → l.foldl fnvS h ≠ l.foldl fnvS h' := by
  induction l with
  | nil => exact fun h h' _ _ hne => hne
  | cons x l ih =>
    intro h h' hh hh' hne
    have hx := hl x (by simp)
    obtain ⟨n, rfl⟩ : ∃ n : Nat, x = (n : Int) := ⟨x.toNat, by omega⟩
    rw [List.foldl_cons, List.foldl_cons]
    refine ih (fun y hy => hl y (by simp [hy])) _ _ (fnvS_lt _ _) (fnvS_lt _ _) fun he => hne ?_
    have := fnvS_inj h h' n n hh hh' (by omega) (by omega) he
    have h2 := congrArg (· ^^^ n) this
    simpa [Nat.xor_assoc] using h2
theorem fnvL_byte (a b : List Int) (x y : Int) (hx : 0 ≤ x ∧ x ≤ 255) (hy : 0 ≤ y ∧ y ≤ 255) (hb : Byt b) (hne : x ≠ y) : fnvL (a ++ x :: b) ≠ fnvL (a ++ y :: b) := by
  have ha := fnvL_lt a
  obtain ⟨n, rfl⟩ : ∃ n : Nat, x = (n : Int) := ⟨x.toNat, by omega⟩
  obtain ⟨k, rfl⟩ : ∃ n : Nat, y = (n : Int) := ⟨y.toNat, by omega⟩
  have e : ∀ z : Int, fnvL (a ++ z :: b) = b.foldl fnvS (fnvS (fnvL a) z) := fun z => by rw [fnvL, fnvL, List.foldl_append, List.foldl_cons]
  rw [e, e]
  refine fnv_apart b hb _ _ (fnvS_lt _ _) (fnvS_lt _ _) fun he => hne ?_
  have := fnvS_inj _ _ n k ha ha (by omega) (by omega) he
  have h2 := congrArg (fnvL a ^^^ ·) this
  have h3 : n = k := by simpa [← Nat.xor_assoc] using h2
  rw [h3]
end Go.Proofs.Ytaneenahapdabaa

namespace Go.Proofs.Ytaneenahapdabaa
open Go

theorem be8_inj (h h' : Nat) (hh : h < 18446744073709551616) (hh' : h' < 18446744073709551616) (he : beL 8 h = beL 8 h') : h = h' := by
  rw [← beV8_be h hh, ← beV8_be h' hh', he]
theorem spoilt (P P' a b : List Int) (x y : Int) (hx : 0 ≤ x ∧ x ≤ 255) (hy : 0 ≤ y ∧ y ≤ 255) (hb : Byt b) (hne : x ≠ y) (h1 : a ++ x :: b = P ++ beL 8 (fnvL P)) (h2 : a ++ y :: b = P' ++ beL 8 (fnvL P')) : False := by
  have hl1 := congrArg List.length h1
  have hl2 := congrArg List.length h2
  simp only [List.length_append, List.length_cons, beL_len] at hl1 hl2
  have e1 : P = (a ++ x :: b).take P.length := by rw [h1, List.take_left]
  have e2 : P' = (a ++ y :: b).take P.length := by rw [h2, show P.length = P'.length by omega, List.take_left]
  by_cases hal : a.length < P.length
  · obtain ⟨k, hk⟩ : ∃ k, P.length = a.length + (k + 1) := ⟨P.length - a.length - 1, by omega⟩
    rw [hk, List.take_length_add_append, List.take_succ_cons] at e1 e2
    have d1 : beL 8 (fnvL P) = (a ++ x :: b).drop P.length := by rw [h1, List.drop_left]
    have d2 : beL 8 (fnvL P') = (a ++ y :: b).drop P.length := by rw [h2, show P.length = P'.length by omega, List.drop_left]
    rw [hk, List.drop_length_add_append, List.drop_succ_cons] at d1 d2
    have he := be8_inj _ _ (fnvL_lt _) (fnvL_lt _) (d1.trans d2.symm)
    rw [e1, e2] at he
    exact fnvL_byte a (b.take k) x y hx hy (hb.take k) hne he
  · rw [List.take_append_of_le_length (by omega)] at e1 e2
    have hP : P = P' := e1.trans e2.symm
    rw [← hP, ← h1] at h2
    have := List.append_cancel_left h2
    simp at this
    exact hne this.symm

theorem seqsP_more (t : List Int) : ∀ (k last : Nat) (sq : List Int) (an : Int → Option (List Int)) (xs : List Int) (a : List Int) (b : Int → Option (List Int)) (r : List Int), seqsP k last sq an xs = some (a, b, r) → seqsP k last sq an (xs ++ t) = some (a, b, r ++ t) := by
  intro k
  induction k with
  | zero =>
    intro last sq an xs a b r h
    simp only [seqsP, Option.some.injEq, Prod.mk.injEq] at h ⊢
    obtain ⟨rfl, rfl, rfl⟩ := h
    exact ⟨rfl, rfl, rfl⟩
  | succ k ih =>
    intro last sq an xs a b r h
    rw [seqsP] at h ⊢
    by_cases h8 : 8 ≤ xs.length
    · rw [if_pos h8] at h
      rw [if_pos (by rw [List.length_append]; omega), List.take_append_of_le_length h8, List.drop_append_of_le_length h8]
      by_cases hle : beV (xs.take 8) ≤ last
      · rw [if_pos hle] at h
        cases h
      · rw [if_neg hle] at h ⊢
        by_cases h4 : 4 ≤ (xs.drop 8).length
        · rw [if_pos h4] at h
          rw [if_pos (by rw [List.length_append]; omega), List.take_append_of_le_length h4, List.drop_append_of_le_length h4]
          by_cases hbig : 65536 < beV ((xs.drop 8).take 4)
          · rw [if_pos hbig] at h
            cases h
          · rw [if_neg hbig] at h ⊢
            by_cases hm : beV ((xs.drop 8).take 4) ≤ ((xs.drop 8).drop 4).length
            · rw [if_pos hm] at h
              rw [if_pos (by rw [List.length_append]; omega), List.take_append_of_le_length hm, List.drop_append_of_le_length hm]
              exact ih _ _ _ _ _ _ _ h
            · rw [if_neg hm] at h
              cases h
        · rw [if_neg h4] at h
          cases h
    · rw [if_neg h8] at h
      cases h
theorem clientP_more (size : Nat) (xs t : List Int) (id : Nat) (s : CS) (r : List Int) (h : clientP size xs = some (id, s, r)) : clientP size (xs ++ t) = some (id, s, r ++ t) := by
  rw [clientP] at h ⊢
  by_cases h1 : 8 ≤ xs.length
  · rw [if_pos h1] at h
    rw [if_pos (by rw [List.length_append]; omega), List.take_append_of_le_length h1, List.drop_append_of_le_length h1]
    by_cases h2 : 8 ≤ (xs.drop 8).length
    · rw [if_pos h2] at h
      rw [if_pos (by rw [List.length_append]; omega), List.take_append_of_le_length h2, List.drop_append_of_le_length h2]
      by_cases h3 : 4 ≤ ((xs.drop 8).drop 8).length
      · rw [if_pos h3] at h
        rw [if_pos (by rw [List.length_append]; omega), List.take_append_of_le_length h3, List.drop_append_of_le_length h3]
        split at h
        · cases h
        · rename_i hc
          rw [if_neg hc]
          rw [Option.map_eq_some_iff] at h
          obtain ⟨⟨a, b, r2⟩, h4, h5⟩ := h
          simp only [Prod.mk.injEq] at h5
          obtain ⟨rfl, rfl, rfl⟩ := h5
          rw [seqsP_more t _ _ _ _ _ _ _ _ h4]
          rfl
      · rw [if_neg h3] at h
        cases h
    · rw [if_neg h2] at h
      cases h
  · rw [if_neg h1] at h
    cases h
theorem clientsP_more (size : Nat) (t : List Int) : ∀ (k i last : Nat) (m m' : Int → Option CS) (xs r : List Int), clientsP size k i last m xs = some (m', r) → clientsP size k i last m (xs ++ t) = some (m', r ++ t) := by
  intro k
  induction k with
  | zero =>
    intro i last m m' xs r h
    simp only [clientsP, Option.some.injEq, Prod.mk.injEq] at h ⊢
    obtain ⟨rfl, rfl⟩ := h
    exact ⟨rfl, rfl⟩
  | succ k ih =>
    intro i last m m' xs r h
    rw [clientsP] at h ⊢
    cases hc : clientP size xs with
    | none => rw [hc] at h; cases h
    | some p =>
      obtain ⟨id, s, r2⟩ := p
      rw [hc] at h
      rw [clientP_more size xs t id s r2 hc]
      dsimp only at h ⊢
      split at h
      · cases h
      · rename_i hn
        rw [if_neg hn]
        exact ih _ _ _ _ _ _ h
/-- What Load reads, and what is left of it. -/
def loadP (xs : List Int) : Option (Nat × Nat × (Int → Option CS) × List Int) :=
  if 4 ≤ xs.length then
    if 4 ≤ (xs.drop 4).length then
      if beV (xs.take 4) < 1 ∨ 64 < beV (xs.take 4) ∨ 1024 < beV ((xs.drop 4).take 4) then none else
      (clientsP (beV (xs.take 4)) (beV ((xs.drop 4).take 4)) 0 0 (fun _ => none) ((xs.drop 4).drop 4)).map fun r => (beV (xs.take 4), beV ((xs.drop 4).take 4), r.1, r.2)
    else none
  else none
theorem loadP_more (xs t : List Int) (size n : Nat) (m : Int → Option CS) (r : List Int) (h : loadP xs = some (size, n, m, r)) : loadP (xs ++ t) = some (size, n, m, r ++ t) := by
  rw [loadP] at h ⊢
  by_cases h1 : 4 ≤ xs.length
  · rw [if_pos h1] at h
    rw [if_pos (by rw [List.length_append]; omega), List.take_append_of_le_length h1, List.drop_append_of_le_length h1]
    by_cases h2 : 4 ≤ (xs.drop 4).length
    · rw [if_pos h2] at h
      rw [if_pos (by rw [List.length_append]; omega), List.take_append_of_le_length h2, List.drop_append_of_le_length h2]
      split at h
      · cases h
      · rename_i hc
        rw [if_neg hc]
        rw [Option.map_eq_some_iff] at h
        obtain ⟨⟨a, r2⟩, h4, h5⟩ := h
        simp only [Prod.mk.injEq] at h5
        obtain ⟨rfl, rfl, rfl, rfl⟩ := h5
        rw [clientsP_more _ t _ _ _ _ _ _ _ h4]
        rfl
    · rw [if_neg h2] at h
      cases h
  · rw [if_neg h1] at h
    cases h
/-- Cut short: not read to the end. -/
theorem cut_short (xs p t : List Int) (hxs : xs = p ++ t) (ht : 0 < t.length) (size n size' n' : Nat) (m m' : Int → Option CS) (r r' : List Int) (h : loadP xs = some (size, n, m, r)) (hr : r.length = 8) (h' : loadP p = some (size', n', m', r')) : r'.length ≠ 8 := by
  have h2 := loadP_more p t _ _ _ _ h'
  rw [← hxs, h] at h2
  simp only [Option.some.injEq, Prod.mk.injEq] at h2
  have h3 := congrArg List.length h2.2.2.2
  rw [List.length_append] at h3
  omega
/-- There and back. -/
theorem loadP_enc (size : Nat) (h1 : 1 ≤ size) (h2 : size ≤ 64) (m : Int → Option CS) (ids : List Int) (hN : ids.length ≤ 1024) (hi : ∀ x, x ∈ ids ↔ (m x).isSome = true) (hu : ∀ x s, m x = some s → U64 x ∧ Full size s) (hp : ids.Pairwise (· < ·)) :
    loadP (encW size ids.length m ids) = some (size, ids.length, m, beL 8 (fnvL (encB size ids.length m ids))) := by
  have e : encW size ids.length m ids = beL 4 size ++ (beL 4 ids.length ++ (ids.flatMap (encC m) ++ beL 8 (fnvL (encB size ids.length m ids)))) := by
    rw [encW]
    generalize beL 8 (fnvL (encB size ids.length m ids)) = t
    rw [encB]
    simp only [List.append_assoc]
  rw [e, loadP, if_pos (by rw [List.length_append, beL_len]; omega), take_be, drop_be, beV4_be _ (by omega), if_pos (by rw [List.length_append, beL_len]; omega), take_be, drop_be, beV4_be _ (by omega), if_neg (by omega),
    clientsP_enc size h2 m _ ids 0 0 (fun _ => none) (fun x hx => by
      obtain ⟨s, hs⟩ := Option.isSome_iff_exists.1 ((hi x).1 hx)
      exact ⟨(hu x s hs).1, s, hs, (hu x s hs).2⟩) hp (fun h => absurd h (by omega))]
  simp only [Option.map_some]
  refine congrArg (fun f => some (size, ids.length, f, _)) (funext fun y => ?_)
  by_cases hy : y ∈ ids
  · rw [if_pos hy]
  · rw [if_neg hy]
    cases hm : m y with
    | none => rfl
    | some s => exact absurd ((hi y).2 (by rw [hm]; rfl)) hy
end Go.Proofs.Ytaneenahapdabaa
