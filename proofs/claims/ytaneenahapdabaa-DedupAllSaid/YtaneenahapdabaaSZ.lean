/- Layer 20: a window under changes beside it; one more client, read from bytes. -/
import Derived.Test.YtaneenahapdabaaSV
namespace Go.Proofs.Ytaneenahapdabaa
open Go

structure Acc (fl last j : Nat) (sq : List Int) (an : Int → Option (List Int)) : Prop where
  u : ∀ x ∈ sq, U64 x ∧ (fl : Int) < x ∧ x ≤ last
  up : sq.Pairwise (· < ·)
  kn : ∀ x, (an x).isSome = true ↔ x ∈ sq
  an : ∀ x a, an x = some a → Byt a ∧ a.length ≤ 65536
  len : sq.length = j
  fl : fl ≤ last
theorem seqsP_full (fl : Nat) : ∀ (k last j : Nat) (sq : List Int) (an : Int → Option (List Int)) (xs : List Int) (a : List Int) (b : Int → Option (List Int)) (r : List Int), Byt xs → Acc fl last j sq an → seqsP k last sq an xs = some (a, b, r) → (∃ last', Acc fl last' (j + k) a b) ∧ Byt r := by
  intro k
  induction k with
  | zero =>
    intro last j sq an xs a b r hx h he
    simp only [seqsP, Option.some.injEq, Prod.mk.injEq] at he
    obtain ⟨rfl, rfl, rfl⟩ := he
    exact ⟨⟨last, h⟩, hx⟩
  | succ k ih =>
    intro last j sq an xs a b r hx h he
    rw [seqsP] at he
    by_cases h8 : 8 ≤ xs.length
    · rw [if_pos h8] at he
      have hn := beV8 hx h8
      obtain ⟨n, hn'⟩ : ∃ n, n = beV (xs.take 8) := ⟨_, rfl⟩
      rw [← hn'] at he hn
      by_cases hle : n ≤ last
      · rw [if_pos hle] at he
        cases he
      · rw [if_neg hle] at he
        by_cases h4 : 4 ≤ (xs.drop 8).length
        · rw [if_pos h4] at he
          by_cases hbig : 65536 < beV ((xs.drop 8).take 4)
          · rw [if_pos hbig] at he
            cases he
          · rw [if_neg hbig] at he
            by_cases hm : beV ((xs.drop 8).take 4) ≤ ((xs.drop 8).drop 4).length
            · rw [if_pos hm] at he
              rw [show j + (k + 1) = (j + 1) + k by omega]
              refine ih n (j + 1) _ _ _ _ _ _ (((hx.drop 8).drop 4).drop _) ?_ he
              obtain ⟨g1, g2, g3, g4, g5, g6⟩ := h
              refine ⟨fun x hx' => ?_, ?_, fun x => ?_, fun x a hxa => ?_, by simp [g5], by omega⟩
              · rcases List.mem_append.1 hx' with hx' | hx'
                · obtain ⟨q1, q2, q3⟩ := g1 x hx'
                  exact ⟨q1, q2, by omega⟩
                · simp at hx'
                  subst hx'
                  exact ⟨⟨by omega, by omega⟩, by omega, by omega⟩
              · refine List.pairwise_append.2 ⟨g2, by simp, fun x hx' y hy => ?_⟩
                simp at hy
                subst hy
                have := (g1 x hx').2.2
                omega
              · rw [updA]
                by_cases hxn : x = (n : Int)
                · rw [if_pos hxn]
                  simp [hxn]
                · rw [if_neg hxn, g3 x]
                  simp [hxn]
              · rw [updA] at hxa
                by_cases hxn : x = (n : Int)
                · rw [if_pos hxn] at hxa
                  cases hxa
                  exact ⟨((hx.drop 8).drop 4).take _, by rw [List.length_take]; omega⟩
                · rw [if_neg hxn] at hxa
                  exact g4 x a hxa
            · rw [if_neg hm] at he
              cases he
        · rw [if_neg h4] at he
          cases he
    · rw [if_neg h8] at he
      cases he
theorem clientP_full (size : Nat) (xs r : List Int) (id : Nat) (s : CS) (hx : Byt xs) (h : clientP size xs = some (id, s, r)) : Full size s ∧ id < 18446744073709551616 ∧ Byt r := by
  rw [clientP] at h
  by_cases h1 : 8 ≤ xs.length
  · rw [if_pos h1] at h
    by_cases h2 : 8 ≤ (xs.drop 8).length
    · rw [if_pos h2] at h
      by_cases h3 : 4 ≤ ((xs.drop 8).drop 8).length
      · rw [if_pos h3] at h
        split at h
        · cases h
        · rename_i hc
          rw [Option.map_eq_some_iff] at h
          obtain ⟨⟨a, b, r2⟩, h4, h5⟩ := h
          simp only [Prod.mk.injEq] at h5
          obtain ⟨rfl, rfl, rfl⟩ := h5
          have hfl := beV8 (hx.drop 8) h2
          obtain ⟨⟨last', g1, g2, g3, g4, g5, g6⟩, hr⟩ := seqsP_full (beV ((xs.drop 8).take 8)) _ _ 0 [] (fun _ => none) _ _ _ _ (((hx.drop 8).drop 8).drop 4) ⟨by simp, by simp, by simp, by simp, rfl, Nat.le_refl _⟩ h4
          rw [Nat.zero_add] at g5
          refine ⟨⟨⟨⟨by dsimp only; omega, by dsimp only; omega⟩, fun x hx' => (g1 x hx').1, g4⟩, ⟨by dsimp only; omega, g2, fun x hx' => (g1 x hx').2.1, g3⟩, ?_, ?_, ?_⟩, beV8 hx h1, hr⟩
          · dsimp only
            omega
          · dsimp only
            omega
          · dsimp only
            intro h0
            have : beV ((xs.drop 8).take 8) ≠ 0 := fun e => h0 (by rw [e]; rfl)
            omega
      · rw [if_neg h3] at h
        cases h
    · rw [if_neg h2] at h
      cases h
  · rw [if_neg h1] at h
    cases h
end Go.Proofs.Ytaneenahapdabaa

namespace Go.Proofs.Ytaneenahapdabaa
open Go

theorem Wn.keepS {w w' : World} {W2 : WS} {S : List Nat} (h2 : Wn w W2) (hf : Fr w w' S) (hS : ∀ b ∈ S, ¬ Foot W2 b) (k5 : ∀ b ∈ S, No5 w b) : Wn w' W2 := by
  have k : ∀ b, Foot W2 b → b ∉ S := fun b hb hm => hS b hm hb
  obtain ⟨es, q, f, a1, a2⟩ := h2.mp
  have kc : ∀ x c, W2.m x = some c → c.cb ∉ S ∧ c.sb ∉ S ∧ c.ab ∉ S := fun x c hx =>
    ⟨k _ (.inr (.inr ⟨x, c, hx, by simp [footC]⟩)), k _ (.inr (.inr ⟨x, c, hx, by simp [footC]⟩)), k _ (.inr (.inr ⟨x, c, hx, by simp [footC]⟩))⟩
  exact ⟨hf.get h2.at_ (k _ (.inl rfl)), ⟨es, q, f, hf.get a1 (k _ (.inr (.inl rfl))), a2⟩, fun x c hx => (h2.cl x c hx).keep hf (kc x c hx).1 (kc x c hx).2.1 (kc x c hx).2.2 k5,
    fun x c hx => (h2.real x c hx).imp (fun e => e) (fun ⟨ds, hd⟩ => ⟨ds, hf.get hd (kc x c hx).2.1⟩), h2.ne, h2.mb, h2.len, fun es' k' h' => by rw [hf.get a1 (k _ (.inr (.inl rfl)))] at h'; cases h'; exact h2.stp es q a1⟩
/-- A block that holds a row of another type is none of the window's. -/
theorem Wn.notFoot {w : World} {W : WS} (h : Wn w W) {b t : Nat} {cs : List Value} (hb : w.heap[b]? = some (row cs t)) (h1 : t ≠ 61) (h2 : t ≠ 28) (h3 : t ≠ 57) : ¬ Foot W b := fun hF => by
  rcases h.foot hF with ⟨_, _, h⟩ | ⟨_, h⟩ | ⟨_, h⟩ | ⟨_, h⟩ <;> rw [hb] at h <;> cases h <;> simp_all
theorem Wn.more2 {B : Nat} {w w' : World} {W : WS} {id : Int} {c2 : CL} {es : Array MapEntry} {k : Nat} {f f' : Int → Option Value} (h : Wn w W) (hc : W.m id = none) (hf : Fr w w' [W.mb]) (h2 : Cl w' c2) (hB : ∀ b, Foot W b → b < B) (z1 : B ≤ c2.cb) (z2 : B ≤ c2.sb) (z3 : B ≤ c2.ab) (hreal : ∃ ds, w'.heap[c2.sb]? = some (row ds 28)) (hl : c2.s.seqs.length ≤ 64)
    (hm : w'.heap[W.mb]? = some (.map es k)) (hM : Mp .u64 es f') (hs : es.size = W.N + 1) (hst : MapKept.Stamped es k) (h0 : ∀ x, f x = (W.m x).map fun c => .pointer (some ⟨c.cb, 0, none⟩)) (hu : f' = upd f id (some (.pointer (some ⟨c2.cb, 0, none⟩)))) :
    Wn w' { W with m := updM W.m id c2, N := W.N + 1 } := by
  have hmbl : W.mb < B := hB _ (.inr (.inl rfl))
  obtain ⟨mes, q, g, m1, m2, m3, m4⟩ := h.mp
  have hm1 : ∀ {b : Nat} {ds : List Value} {t : Nat} {e : Array MapEntry} {q : Nat}, w.heap[b]? = some (row ds t) → w.heap[b]? ≠ some (.map e q) := fun h1 h2 => by rw [h1] at h2; cases h2
  have hlt : ∀ x d, W.m x = some d → d.cb < B ∧ d.sb < B ∧ d.ab < B := fun x d hx =>
    ⟨hB _ (.inr (.inr ⟨x, d, hx, by simp [footC]⟩)), hB _ (.inr (.inr ⟨x, d, hx, by simp [footC]⟩)), hB _ (.inr (.inr ⟨x, d, hx, by simp [footC]⟩))⟩
  have hsplit : ∀ x d, updM W.m id c2 x = some d → (x = id ∧ d = c2) ∨ (x ≠ id ∧ W.m x = some d) := by
    intro x d hx
    by_cases e : x = id
    · subst e
      rw [updM_self] at hx
      cases hx
      exact .inl ⟨rfl, rfl⟩
    · rw [updM_ne e] at hx
      exact .inr ⟨e, hx⟩
  have hk : ∀ x d, W.m x = some d → d.cb ∉ [W.mb] ∧ d.sb ∉ [W.mb] ∧ d.ab ∉ [W.mb] := by
    intro x d hx
    obtain ⟨⟨v, a1, _⟩, _⟩ := h.cl x d hx
    refine ⟨?_, ?_, by simpa using h.mb x d hx⟩
    · simp only [List.mem_singleton]
      exact fun e => hm1 a1 (by rw [e]; exact m1)
    · simp only [List.mem_singleton]
      rcases h.real x d hx with e | ⟨ds, e⟩
      · rw [e]; exact fun e => hm1 a1 (by rw [e]; exact m1)
      · exact fun e' => hm1 e (by rw [e']; exact m1)
  refine ⟨hf.get h.at_ ?_, ⟨es, k, f', hm, hM, hs, fun x => ?_⟩, fun x d hx => ?_, fun x d hx => ?_, fun x y d d' hxy hx hy => ?_, fun x d hx => ?_, fun x d hx => ?_, fun es' k' h' => by rw [hm] at h'; cases h'; exact hst⟩
  · simp only [List.mem_singleton]
    exact fun e => hm1 h.at_ (by rw [e]; exact m1)
  · show f' x = (updM W.m id c2 x).map _
    rw [hu]
    by_cases e : x = id
    · subst e
      rw [updM_self]
      simp [upd]
    · rw [updM_ne e]
      simp only [upd, if_neg e]
      exact h0 x
  · rcases hsplit x d hx with ⟨rfl, rfl⟩ | ⟨hne, hx⟩
    · exact h2
    · exact (h.cl x d hx).keep hf (hk x d hx).1 (hk x d hx).2.1 (hk x d hx).2.2 (fun b hb => h.no5 (by simp at hb; exact .inr (.inl hb)))
  · rcases hsplit x d hx with ⟨rfl, rfl⟩ | ⟨hne, hx⟩
    · exact .inr hreal
    · exact (h.real x d hx).imp (fun e => e) (fun ⟨ds, hd⟩ => ⟨ds, hf.get hd (hk x d hx).2.1⟩)
  · rcases hsplit x d hx with ⟨rfl, rfl⟩ | ⟨hne, hx'⟩ <;> rcases hsplit y d' hy with ⟨rfl, rfl⟩ | ⟨hne', hy'⟩
    · exact absurd rfl hxy
    · obtain ⟨l1, l2, l3⟩ := hlt y d' hy'
      omega
    · obtain ⟨l1, l2, l3⟩ := hlt x d hx'
      omega
    · exact h.ne x y d d' hxy hx' hy'
  · rcases hsplit x d hx with ⟨rfl, rfl⟩ | ⟨hne, hx⟩
    · show d.ab ≠ W.mb
      omega
    · exact h.mb x d hx
  · rcases hsplit x d hx with ⟨rfl, rfl⟩ | ⟨hne, hx⟩
    · exact hl
    · exact h.len x d hx
end Go.Proofs.Ytaneenahapdabaa
