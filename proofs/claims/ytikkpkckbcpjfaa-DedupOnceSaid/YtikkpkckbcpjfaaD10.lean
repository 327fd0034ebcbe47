/- Walks: DedupOnce. -/
import Derived.Test.YtikkpkckbcpjfaaD9
namespace Go.Proofs.Ytikkpkckbcpjfaa
open Go
set_option maxRecDepth 20000
set_option maxHeartbeats 2000000
attribute [local irreducible] Run Ops Fn Draw Draw2 PureOp StepZ

/-- What the window and the calls that were made say of each other. -/
structure Say (W : WS) (M : List MD) : Prop where
  ris : ∀ id s, st W id = some s → Ris s
  uniq : ∀ i j, i < M.length → j < M.length → i ≠ j → ¬ ((M.getD i md0).client = (M.getD j md0).client ∧ (M.getD i md0).seq = (M.getD j md0).seq)
  kn : ∀ id s seq bs, st W id = some s → s.ans seq = some bs → ∃ i, i < M.length ∧ isMd (M.getD i md0) id seq ∧ (M.getD i md0).b = bs
  pa : ∀ i, i < M.length → ∃ s, st W (M.getD i md0).client = some s ∧ ((M.getD i md0).seq ≤ s.floor ∨ s.ans (M.getD i md0).seq = some (M.getD i md0).b) ∧ ((M.getD i md0).past = true → (M.getD i md0).seq ≤ s.floor)
  tot : ∀ ks : List Int, ks.Nodup → (ks.map (lenOf W)).sum ≤ M.length
theorem mget_app (M : List MD) (m : MD) (i : Nat) : (M ++ [m]).getD i md0 = if i < M.length then M.getD i md0 else if i = M.length then m else md0 := by
  simp only [List.getD_eq_getElem?_getD]
  by_cases h : i < M.length
  · rw [if_pos h, List.getElem?_append_left h]
  · rw [if_neg h, List.getElem?_append_right (by omega)]
    by_cases h2 : i = M.length
    · subst h2; simp
    · rw [if_neg h2, List.getElem?_eq_none (by simp; omega)]; rfl
def setPast (M : List MD) (i : Nat) : List MD := M.set i { M.getD i md0 with past := true }
theorem setPast_len (M : List MD) (i : Nat) : (setPast M i).length = M.length := by simp [setPast]
theorem setPast_get {M : List MD} {i : Nat} (hi : i < M.length) (j : Nat) : (setPast M i).getD j md0 = if j = i then { M.getD i md0 with past := true } else M.getD j md0 := by
  unfold setPast
  simp only [List.getD_eq_getElem?_getD, List.getElem?_set]
  by_cases h : j = i
  · subst h
    simp [hi]
  · rw [if_neg (fun e => h e.symm), if_neg h]
theorem Say.nil (W : WS) (h : ∀ id, st W id = none) : Say W [] := by
  have hz : ∀ ks : List Int, (ks.map (lenOf W)).sum = 0 := by
    intro ks
    induction ks with
    | nil => rfl
    | cons x l ih => simp [ih, lenOf, h]
  refine ⟨fun id s hs => ?_, fun i j hi => ?_, fun id s _ _ hs => ?_, fun i hi => ?_, fun ks _ => ?_⟩
  · rw [h] at hs; cases hs
  · simp at hi
  · rw [h] at hs; cases hs
  · simp at hi
  · rw [hz]; simp
theorem Say.past {W : WS} {M : List MD} {i : Nat} (h : Say W M) (hi : i < M.length) (hp : ∀ s, st W (M.getD i md0).client = some s → (M.getD i md0).seq ≤ s.floor) : Say W (setPast M i) := by
  have hg : ∀ j, ((setPast M i).getD j md0).client = (M.getD j md0).client ∧ ((setPast M i).getD j md0).seq = (M.getD j md0).seq ∧ ((setPast M i).getD j md0).b = (M.getD j md0).b := by
    intro j
    rw [setPast_get hi]
    by_cases e : j = i
    · subst e; simp
    · simp [e]
  refine ⟨h.ris, fun j k hj hk hjk => ?_, fun id s seq bs hs hb => ?_, fun j hj => ?_, fun ks hk => by rw [setPast_len]; exact h.tot ks hk⟩
  · rw [setPast_len] at hj hk
    rw [(hg j).1, (hg k).1, (hg j).2.1, (hg k).2.1]
    exact h.uniq j k hj hk hjk
  · obtain ⟨j, h1, ⟨h2, h3⟩, h4⟩ := h.kn id s seq bs hs hb
    exact ⟨j, by rw [setPast_len]; exact h1, ⟨(hg j).1.trans h2, (hg j).2.1.trans h3⟩, (hg j).2.2.trans h4⟩
  · rw [setPast_len] at hj
    obtain ⟨s, h1, h2, h3⟩ := h.pa j hj
    refine ⟨s, by rw [(hg j).1]; exact h1, by rw [(hg j).2.1, (hg j).2.2]; exact h2, fun hpp => ?_⟩
    rw [(hg j).2.1]
    rw [setPast_get hi] at hpp
    by_cases e : j = i
    · subst e
      exact hp s h1
    · rw [if_neg e] at hpp
      exact h3 hpp
theorem sum_step (f g : Int → Nat) (id : Int) (hne : ∀ x, x ≠ id → g x = f x) (hid : g id ≤ f id + 1) : ∀ ks : List Int, ks.Nodup → (ks.map g).sum ≤ (ks.map f).sum + 1 ∧ (id ∉ ks → (ks.map g).sum = (ks.map f).sum) := by
  intro ks
  induction ks with
  | nil => intro _; simp
  | cons x l ih =>
    intro hn
    obtain ⟨hx, hl⟩ := List.nodup_cons.1 hn
    obtain ⟨h1, h2⟩ := ih hl
    simp only [List.map_cons, List.sum_cons, List.mem_cons, not_or]
    by_cases e : x = id
    · subst e
      have := h2 hx
      refine ⟨by omega, fun h => absurd rfl h.1⟩
    · rw [hne x e]
      exact ⟨by omega, fun h => by rw [h2 h.2]⟩
/-- A call was made. -/
theorem Say.put {W W' : WS} {M : List MD} {id seq n : Int} {bs : List Int} (h : Say W M) (hk : askK (st W id) seq = 1) (h0 : 0 < seq) (hs : st W' id = some (insC n ((st W id).getD cs0) seq bs)) (hne : ∀ y, y ≠ id → st W' y = st W y) : Say W' (M ++ [⟨id, seq, bs, false⟩]) := by
  obtain ⟨s0, hs0⟩ : ∃ s0, s0 = (st W id).getD cs0 := ⟨_, rfl⟩
  have hr : Ris s0 ∧ s0.floor < seq ∧ s0.ans seq = none := by
    subst hs0
    cases hst : st W id with
    | none => exact ⟨Ris.zero, h0, rfl⟩
    | some s =>
      rw [hst] at hk
      unfold askK at hk
      dsimp only at hk
      split at hk
      · omega
      · split at hk
        · omega
        · rename_i h1 h2
          refine ⟨h.ris id s hst, by simp only [Option.getD_some]; omega, ?_⟩
          simp only [Option.getD_some]
          cases ha : s.ans seq with
          | none => rfl
          | some b => rw [ha] at h2; exact absurd rfl h2
  rw [← hs0] at hs
  obtain ⟨hr1, hr2, hr3⟩ := hr
  obtain ⟨hi1, hi2⟩ := hr1.ins (n := n) (bs := bs) hr2 hr3
  have hno : ∀ i, i < M.length → ¬ isMd (M.getD i md0) id seq := by
    rintro i hi ⟨e1, e2⟩
    obtain ⟨s, h1, h2, _⟩ := h.pa i hi
    rw [e1] at h1
    have hs0' : s0 = s := by rw [hs0, h1]; rfl
    subst hs0'
    rw [e2] at h2
    rcases h2 with h2 | h2
    · omega
    · rw [hr3] at h2; cases h2
  have hlen : (M ++ [(⟨id, seq, bs, false⟩ : MD)]).length = M.length + 1 := by simp
  refine ⟨fun x s hx => ?_, fun i j hi hj hij => ?_, fun x s q b hx hb => ?_, fun i hi => ?_, fun ks hks => ?_⟩
  · by_cases e : x = id
    · subst e; rw [hs] at hx; cases hx; exact hi1
    · rw [hne x e] at hx; exact h.ris x s hx
  · rw [hlen] at hi hj
    rw [mget_app, mget_app]
    by_cases h1 : i < M.length <;> by_cases h2 : j < M.length
    · rw [if_pos h1, if_pos h2]; exact h.uniq i j h1 h2 hij
    · rw [if_pos h1, if_neg h2, if_pos (by omega)]; exact fun hh => hno i h1 hh
    · rw [if_neg h1, if_pos (by omega), if_pos h2]; exact fun hh => hno j h2 ⟨hh.1.symm, hh.2.symm⟩
    · omega
  · have old : ∀ {x' s' q' b'}, st W x' = some s' → s'.ans q' = some b' → ∃ i, i < (M ++ [(⟨id, seq, bs, false⟩ : MD)]).length ∧ isMd ((M ++ [(⟨id, seq, bs, false⟩ : MD)]).getD i md0) x' q' ∧ ((M ++ [(⟨id, seq, bs, false⟩ : MD)]).getD i md0).b = b' := by
      intro x' s' q' b' h1 h2
      obtain ⟨i, h3, h4, h5⟩ := h.kn x' s' q' b' h1 h2
      refine ⟨i, by omega, ?_, ?_⟩ <;> rw [mget_app, if_pos h3]
      · exact h4
      · exact h5
    by_cases e : x = id
    · subst e
      rw [hs] at hx
      cases hx
      rcases insC_back hb with ⟨e1, e2⟩ | hb
      · refine ⟨M.length, by omega, ?_, ?_⟩ <;> rw [mget_app, if_neg (by omega), if_pos rfl]
        · exact ⟨rfl, e1.symm⟩
        · exact e2.symm
      · cases hst : st W x with
        | none => rw [hs0, hst] at hb; cases hb
        | some s' => rw [hs0, hst] at hb; exact old hst hb
    · rw [hne x e] at hx
      exact old hx hb
  · rw [hlen] at hi
    rw [mget_app]
    by_cases h1 : i < M.length
    · rw [if_pos h1]
      obtain ⟨s, h2, h3, h4⟩ := h.pa i h1
      by_cases e : (M.getD i md0).client = id
      · rw [e] at h2
        have hs0' : s0 = s := by rw [hs0, h2]; rfl
        subst hs0'
        rw [e]
        exact ⟨_, hs, insC_stay h3 (fun hh => hno i h1 ⟨e, hh⟩) hr1 hr2 hr3, fun hp => by have := h4 hp; omega⟩
      · exact ⟨s, by rw [hne _ e]; exact h2, h3, h4⟩
    · rw [if_neg h1, if_pos (by omega)]
      exact ⟨_, hs, insC_new, fun hp => by cases hp⟩
  · have h1 := h.tot ks hks
    have h2 := (sum_step (lenOf W) (lenOf W') id (fun x hx => by unfold lenOf; rw [hne x hx]) (by
      unfold lenOf
      rw [hs]
      have := insC_len (s := s0) (seq := seq) (bs := bs) (n := n)
      rw [hs0] at this ⊢
      cases hst : st W id with
      | none => rw [hst] at this; simpa [cs0] using this
      | some s => rw [hst] at this; simpa using this) ks hks).1
    omega
/-- Everything, at the head of the loop. -/
structure Onc (z w : World) (n : Int) (W : WS) (M : List MD) (v : Value) (q : Nat) : Prop where
  fr : Fr z w []
  pw : Wn w W
  gw : ∀ b, Foot W b → z.heap.size ≤ b
  nw : W.size = n
  nn : W.N ≤ 1024
  sw : ∀ id, Short n (st W id)
  md : Md w v q M
  gq : z.heap.size ≤ q
  say : Say W M
theorem Onc.ext {z w w' : World} {n : Int} {W : WS} {M : List MD} {v : Value} {q : Nat} (h : Onc z w n W M v q) (hf : Fr w w' []) : Onc z w' n W M v q :=
  ⟨h.fr.then hf, h.pw.ext hf, h.gw, h.nw, h.nn, h.sw, h.md.ext hf, h.gq, h.say⟩
end Go.Proofs.Ytikkpkckbcpjfaa
