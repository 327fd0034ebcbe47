/- The plain law of a window: numbers rise, each call at most once, and what was said stays. -/
import Derived.Test.YtaneenahapdabaaP6
namespace Go.Proofs.Ytaneenahapdabaa
open Go
set_option maxRecDepth 20000
set_option maxHeartbeats 2000000
attribute [local irreducible] Run Ops Fn Draw Draw2 PureOp StepZ

structure DA where
  kind : Int
  client : Int
  seq : Int
  v : Value
  xs : List Int
def daC (a : DA) : List Value := [.int .i64 a.kind, .int .u64 a.client, .int .u64 a.seq, a.v]
/-- A slice of acts. -/
def DActs (w : World) (a : Option Addr) (n b off : Nat) (cs : List Value) (T : TypeId) (fz : Nat × Nat) (A : Nat → DA) : Prop :=
  n ≤ 9223372036854775807 ∧ (0 < n → a = some ⟨b, off, none⟩ ∧ w.heap[b]? = some (.cells (List.toArray cs) T fz)) ∧ ∀ j, j < n → Cs cs (off + j * 4) 4 (daC (A j)) ∧ Bys w (A j).v (A j).xs ∧ (A j).xs.length ≤ 140737488355327
/-- The client's own: is it known? -/
def indC (s : Option CS) : Nat := if s.isSome then 1 else 0
theorem putE_same {N M : Nat} {s : Option CS} {seq : Int} {bs : List Int} (hN : s = none → N < 1024) (hM : s = none → M < 1024) : putE N s seq bs = putE M s seq bs := by
  unfold putE
  cases s with
  | none =>
    have := hN rfl
    have := hM rfl
    simp
    omega
  | some c => simp
theorem putS_same {n : Int} {N M : Nat} {s : Option CS} {seq : Int} {bs : List Int} (hN : s = none → N < 1024) (hM : s = none → M < 1024) : putS n N s seq bs = putS n M s seq bs := by
  unfold putS
  rw [putE_same hN hM]
theorem putN_le {N : Nat} {s : Option CS} {seq : Int} {bs : List Int} : putN N s seq bs ≤ N + 1 := by
  unfold putN
  split <;> omega
theorem putN_ind {n : Int} {N k : Nat} {s : Option CS} {seq : Int} {bs : List Int} (h : N ≤ k + indC s) : putN N s seq bs ≤ k + indC (putS n N s seq bs) := by
  unfold putN putS
  by_cases he : putE N s seq bs = 0
  · rw [if_pos he]
    cases s with
    | none => simp [he, indC] at h ⊢; omega
    | some c => simp [indC] at h ⊢; omega
  · rw [if_neg (fun hh => he hh.1), if_neg he]
    exact h
/-- What the numbers of a window keep. -/
def Short (n : Int) (s : Option CS) : Prop := ∀ c, s = some c → (c.seqs.length : Int) ≤ n ∧ ∀ x xs, c.ans x = some xs → xs.length ≤ 65536
theorem bsGo_le (xs : List Int) (t : Int) : ∀ k lo hi, lo ≤ hi → hi ≤ xs.length → bsGo xs t k lo hi ≤ xs.length := by
  intro k
  induction k with
  | zero => intro lo hi h1 h2; simp [bsGo]; omega
  | succ k ih =>
    intro lo hi h1 h2
    unfold bsGo
    split
    · split
      · exact ih _ _ (by omega) h2
      · exact ih _ _ (by omega) (by omega)
    · omega
theorem bsL_le (xs : List Int) (t : Int) : bsL xs t ≤ xs.length := bsGo_le xs t _ _ _ (by omega) (by omega)
theorem insC_short {n : Int} {s : CS} {seq : Int} {bs : List Int} (h : (s.seqs.length : Int) ≤ n) (ha : ∀ x xs, s.ans x = some xs → xs.length ≤ 65536) (hb : bs.length ≤ 65536) : ((insC n s seq bs).seqs.length : Int) ≤ n ∧ ∀ x xs, (insC n s seq bs).ans x = some xs → xs.length ≤ 65536 := by
  have hl := insL_len (x := seq) (bsL_le s.seqs seq)
  have hu : ∀ x xs, updA s.ans seq (some bs) x = some xs → xs.length ≤ 65536 := by
    intro x xs hx
    unfold updA at hx
    split at hx
    · cases hx; exact hb
    · exact ha x xs hx
  unfold insC
  split
  · refine ⟨by simp; omega, fun x xs hx => ?_⟩
    dsimp only at hx
    rw [updA] at hx
    split at hx
    · cases hx
    · exact hu x xs hx
  · exact ⟨by dsimp only; omega, hu⟩
theorem putS_short {n : Int} {N : Nat} {s : Option CS} {seq : Int} {bs : List Int} (h1 : 1 ≤ n) (h : Short n s) : Short n (putS n N s seq bs) := by
  unfold putS
  split
  · rename_i he
    have hb : bs.length ≤ 65536 := by
      unfold putE at he
      split at he
      · omega
      · split at he
        · omega
        · omega
    intro c hc
    cases hc
    cases s with
    | none => exact insC_short (by simp [cs0]; omega) (by simp [cs0]) hb
    | some c => exact insC_short (h c rfl).1 (h c rfl).2 hb
  · exact h
/-- Two windows. -/
structure Two (z w : World) (n : Int) (W A : WS) : Prop where
  fr : Fr z w []
  pw : Wn w W
  pa : Wn w A
  dj : Dj W A
  gw : ∀ b, Foot W b → z.heap.size ≤ b
  ga : ∀ b, Foot A b → z.heap.size ≤ b
  nw : W.size = n
  na : A.size = n
  sw : ∀ id, Short n (st W id)
  sa : ∀ id, Short n (st A id)
theorem Two.ext {z w w' : World} {n : Int} {W A : WS} (h : Two z w n W A) (hf : Fr w w' []) : Two z w' n W A :=
  ⟨h.fr.then hf, h.pw.ext hf, h.pa.ext hf, h.dj, h.gw, h.ga, h.nw, h.na, h.sw, h.sa⟩
theorem Two.swap {z w : World} {n : Int} {W A : WS} (h : Two z w n W A) : Two z w n A W :=
  ⟨h.fr, h.pa, h.pw, fun b hb hb' => h.dj b hb' hb, h.ga, h.gw, h.na, h.nw, h.sa, h.sw⟩
theorem two_put (z w : World) (n : Int) (W A : WS) (id seq : Int) (V : Value) (bs : List Int) (h : Two z w n W A) (hV : Ans w V bs) (h1 : 1 ≤ n) (h2 : n ≤ 64) :
    Fn env.P 7 [.pointer (some ⟨W.wb, 0, none⟩), .int .u64 id, .int .u64 seq, V] w fun v w' => v = .int .i64 (putE W.N (st W id) seq bs) ∧ ∃ W', W'.wb = W.wb ∧ Two z w' n W' A ∧ st W' id = putS n W.N (st W id) seq bs ∧ (∀ y, y ≠ id → st W' y = st W y) ∧ W'.N = putN W.N (st W id) seq bs ∧ Fr w w' (footP W id) := by
  refine (put_any w W id seq V bs h.pw hV (by rw [h.nw]; exact h1) (by rw [h.nw]; exact h2) (st_len rfl (fun c hc => by rw [h.nw]; exact (h.sw id c hc).1))).mono ?_
  rintro v w' ⟨e1, e2, m', e3, e4, e5, e6⟩
  have hst : ∀ y, y ≠ id → st { W with m := m', N := putN W.N (st W id) seq bs } y = st W y := fun y hy => by
    show (m' y).map _ = (W.m y).map _
    rw [e4 y hy]
  have hst' : st { W with m := m', N := putN W.N (st W id) seq bs } id = putS n W.N (st W id) seq bs := by rw [← h.nw]; exact e5
  have hft : ∀ {b : Nat}, Foot { W with m := m', N := putN W.N (st W id) seq bs } b → Foot W b ∨ w.heap.size ≤ b := fun hb => PutPost.foot e4 e6 hb
  refine ⟨e1, { W with m := m', N := putN W.N (st W id) seq bs }, rfl, ⟨h.fr.grow e2 (fun b hb => h.gw b (footP_foot hb)), e3, h.pw.other h.pa h.dj e2 (fun b hb => footP_foot hb), fun b hb hb' => ?_, fun b hb => ?_, h.ga, h.nw, h.na, fun y => ?_, h.sa⟩, hst', hst, rfl, e2⟩
  · rcases hft hb with hb | hb
    · exact h.dj b hb hb'
    · have := h.pa.lt hb'
      omega
  · rcases hft hb with hb | hb
    · exact h.gw b hb
    · exact Nat.le_trans h.fr.size hb
  · by_cases e : y = id
    · subst e
      rw [hst']
      exact putS_short h1 (h.sw y)
    · rw [hst y e]
      exact h.sw y
theorem askB_short {n : Int} {s : Option CS} {seq : Int} (h : Short n s) : (askB s seq).length ≤ 65536 := by
  unfold askB
  cases s with
  | none => simp
  | some c =>
    dsimp only
    split
    · simp
    · cases ha : c.ans seq with
      | none => simp
      | some xs => simpa using (h c rfl).2 seq xs ha
end Go.Proofs.Ytaneenahapdabaa

namespace Go.Proofs.Ytaneenahapdabaa
open Go

/-- A client's numbers rise, above the floor; what is known is what they name. -/
structure Ris (s : CS) : Prop where
  fl : 0 ≤ s.floor
  up : s.seqs.Pairwise (· < ·)
  low : ∀ x ∈ s.seqs, s.floor < x
  kn : ∀ x, (s.ans x).isSome = true ↔ x ∈ s.seqs
theorem Ris.zero : Ris cs0 := ⟨by simp [cs0], by simp [cs0], by simp [cs0], by simp [cs0]⟩
/-- The search in a list that rises. -/
theorem bsGo_spec (xs : List Int) (t : Int) (hs : xs.Pairwise (· < ·)) : ∀ k lo hi, lo ≤ hi → hi ≤ xs.length → hi - lo ≤ k → (∀ i, i < lo → xs.getD i 0 < t) → (∀ i, hi ≤ i → i < xs.length → t ≤ xs.getD i 0) →
    (∀ i, i < bsGo xs t k lo hi → xs.getD i 0 < t) ∧ ∀ i, bsGo xs t k lo hi ≤ i → i < xs.length → t ≤ xs.getD i 0 := by
  have hmono : ∀ i j, i ≤ j → j < xs.length → xs.getD i 0 ≤ xs.getD j 0 := by
    intro i j hij hj
    rcases Nat.lt_or_eq_of_le hij with h | h
    · have := List.pairwise_iff_getElem.1 hs i j (by omega) hj h
      simp only [List.getD_eq_getElem?_getD, List.getElem?_eq_getElem hj, List.getElem?_eq_getElem (show i < xs.length by omega), Option.getD_some]
      omega
    · subst h; omega
  intro k
  induction k with
  | zero =>
    intro lo hi h1 h2 h3 hl hh
    obtain rfl : lo = hi := by omega
    exact ⟨hl, hh⟩
  | succ k ih =>
    intro lo hi h1 h2 h3 hl hh
    unfold bsGo
    split
    · rename_i hlt
      split
      · rename_i hx
        refine ih _ _ (by omega) h2 (by omega) (fun i hi' => ?_) hh
        have := hmono i ((lo + hi) / 2) (by omega) (by omega)
        omega
      · rename_i hx
        refine ih _ _ (by omega) (by omega) (by omega) hl (fun i hi' hi2 => ?_)
        have := hmono ((lo + hi) / 2) i hi' hi2
        omega
    · obtain rfl : lo = hi := by omega
      exact ⟨hl, hh⟩
theorem bsL_spec (xs : List Int) (t : Int) (hs : xs.Pairwise (· < ·)) : (∀ x ∈ xs.take (bsL xs t), x < t) ∧ ∀ x ∈ xs.drop (bsL xs t), t ≤ x := by
  obtain ⟨h1, h2⟩ := bsGo_spec xs t hs xs.length 0 xs.length (by omega) (by omega) (by omega) (by intro i hi; omega) (by intro i h1 h2; omega)
  constructor
  · intro x hx
    obtain ⟨i, hi, e⟩ := List.getElem_of_mem hx
    have hi' : i < bsL xs t ∧ i < xs.length := by simpa [Nat.lt_min] using hi
    rw [List.getElem_take] at e
    have := h1 i hi'.1
    rw [List.getD_eq_getElem?_getD, List.getElem?_eq_getElem hi'.2, Option.getD_some, e] at this
    exact this
  · intro x hx
    obtain ⟨i, hi, e⟩ := List.getElem_of_mem hx
    have hi : i < xs.length - bsL xs t := by simpa using hi
    rw [List.getElem_drop] at e
    have := h2 (bsL xs t + i) (by unfold bsL; omega) (by omega)
    rw [List.getD_eq_getElem?_getD, List.getElem?_eq_getElem (by omega), Option.getD_some, e] at this
    exact this
theorem insL_mem {i : Nat} {x y : Int} {xs : List Int} : y ∈ insL i x xs ↔ y = x ∨ y ∈ xs := by
  unfold insL
  rw [List.mem_append, List.mem_cons]
  constructor
  · rintro (h | h | h)
    · exact .inr (List.mem_of_mem_take h)
    · exact .inl h
    · exact .inr (List.mem_of_mem_drop h)
  · rintro (h | h)
    · exact .inr (.inl h)
    · rw [← List.take_append_drop i xs] at h
      rcases List.mem_append.1 h with h | h
      · exact .inl h
      · exact .inr (.inr h)
theorem insL_up {x : Int} {xs : List Int} (h : xs.Pairwise (· < ·)) (hx : x ∉ xs) : (insL (bsL xs x) x xs).Pairwise (· < ·) := by
  obtain ⟨h1, h2⟩ := bsL_spec xs x h
  have h3 : xs.take (bsL xs x) ++ xs.drop (bsL xs x) = xs := List.take_append_drop _ _
  rw [← h3, List.pairwise_append] at h
  unfold insL
  rw [List.pairwise_append, List.pairwise_cons]
  refine ⟨h.1, ⟨fun y hy => ?_, h.2.1⟩, fun a ha b hb => ?_⟩
  · have := h2 y hy
    have : x ≠ y := fun e => hx (by rw [e]; exact List.mem_of_mem_drop hy)
    omega
  · rcases List.mem_cons.1 hb with rfl | hb
    · exact h1 a ha
    · exact h.2.2 a ha b hb
/-- Put keeps it. -/
theorem Ris.ins {s : CS} {seq : Int} {bs : List Int} {n : Int} (h : Ris s) (hf : s.floor < seq) (hk : s.ans seq = none) : Ris (insC n s seq bs) ∧ s.floor ≤ (insC n s seq bs).floor := by
  have hx : seq ∉ s.seqs := fun hm => by have := (h.kn seq).2 hm; rw [hk] at this; cases this
  have hu := insL_up h.up hx
  have hm : ∀ y, y ∈ insL (bsL s.seqs seq) seq s.seqs ↔ y = seq ∨ y ∈ s.seqs := fun y => insL_mem
  have hlow : ∀ y ∈ insL (bsL s.seqs seq) seq s.seqs, s.floor < y := fun y hy => by
    rcases (hm y).1 hy with rfl | hy
    · exact hf
    · exact h.low y hy
  have hkn : ∀ y, (updA s.ans seq (some bs) y).isSome = true ↔ y ∈ insL (bsL s.seqs seq) seq s.seqs := fun y => by
    rw [hm, updA]
    by_cases e : y = seq
    · simp [e]
    · simp [e, h.kn]
  generalize hQ : insL (bsL s.seqs seq) seq s.seqs = Q at *
  unfold insC
  rw [hQ]
  split
  · cases Q with
    | nil => exact absurd ((hm seq).2 (.inl rfl)) (by simp)
    | cons q r =>
      have hq := hlow q (by simp)
      have hr := List.pairwise_cons.1 hu
      refine ⟨⟨?_, hr.2, fun y hy => by simpa using hr.1 y hy, fun y => ?_⟩, ?_⟩
      · have := h.fl
        simp
        omega
      · dsimp only
        rw [updA]
        by_cases e : y = q
        · have : q ∉ r := fun hm => by have := hr.1 q hm; omega
          simp [e, this]
        · have := hkn y
          simp only [List.mem_cons, e, false_or] at this
          simpa [e] using this
      · simp
        omega
  · exact ⟨⟨h.fl, hu, hlow, hkn⟩, Int.le_refl _⟩
/-- What Put does to an answer: it stays, or falls under the floor. -/
theorem insC_stay {s : CS} {seq x : Int} {bs b : List Int} {n : Int} (h : x ≤ s.floor ∨ s.ans x = some b) (hx : x ≠ seq) (hr : Ris s) (hf : s.floor < seq) (hk : s.ans seq = none) : x ≤ (insC n s seq bs).floor ∨ (insC n s seq bs).ans x = some b := by
  have hfl := (hr.ins (n := n) (bs := bs) hf hk).2
  rcases h with h | h
  · exact .inl (by omega)
  · unfold insC
    split
    · by_cases e : x = (insL (bsL s.seqs seq) seq s.seqs).getD 0 0
      · exact .inl (by dsimp only; omega)
      · refine .inr ?_
        dsimp only
        rw [updA, if_neg e, updA, if_neg hx]
        exact h
    · refine .inr ?_
      dsimp only
      rw [updA, if_neg hx]
      exact h
theorem insC_new {s : CS} {seq : Int} {bs : List Int} {n : Int} : seq ≤ (insC n s seq bs).floor ∨ (insC n s seq bs).ans seq = some bs := by
  unfold insC
  split
  · by_cases e : seq = (insL (bsL s.seqs seq) seq s.seqs).getD 0 0
    · exact .inl (by dsimp only; omega)
    · refine .inr ?_
      dsimp only
      rw [updA, if_neg e, updA, if_pos rfl]
  · refine .inr ?_
    dsimp only
    rw [updA, if_pos rfl]
theorem insC_back {s : CS} {seq x : Int} {bs b : List Int} {n : Int} (h : (insC n s seq bs).ans x = some b) : (x = seq ∧ b = bs) ∨ s.ans x = some b := by
  have key : ∀ {b}, updA s.ans seq (some bs) x = some b → (x = seq ∧ b = bs) ∨ s.ans x = some b := by
    intro b hb
    rw [updA] at hb
    split at hb
    · cases hb; exact .inl ⟨by assumption, rfl⟩
    · exact .inr hb
  unfold insC at h
  split at h
  · dsimp only at h
    rw [updA] at h
    split at h
    · cases h
    · exact key h
  · exact key h
theorem insC_len {s : CS} {seq : Int} {bs : List Int} {n : Int} : (insC n s seq bs).seqs.length ≤ s.seqs.length + 1 := by
  have hl := insL_len (x := seq) (bsL_le s.seqs seq)
  unfold insC
  split
  · simp; omega
  · dsimp only; omega
end Go.Proofs.Ytaneenahapdabaa
