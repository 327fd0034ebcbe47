/- Walks: DedupApart. -/
import Derived.Test.YtaneenahapdabaaP6
namespace Go.Proofs.Ytaneenahapdabaa
open Go
set_option maxRecDepth 20000
set_option maxHeartbeats 2000000
attribute [local irreducible] Run Ops Fn Draw Draw2 PureOp StepZ

structure DA where
  kind : Int
  client : Int
  seq : Int
  v : Value
  xs : List Int
def daC (a : DA) : List Value := [.int .i64 a.kind, .int .u64 a.client, .int .u64 a.seq, a.v]
/-- A slice of acts. -/
def DActs (w : World) (a : Option Addr) (n b off : Nat) (cs : List Value) (T : TypeId) (fz : Nat × Nat) (A : Nat → DA) : Prop :=
  n ≤ 9223372036854775807 ∧ (0 < n → a = some ⟨b, off, none⟩ ∧ w.heap[b]? = some (.cells (List.toArray cs) T fz)) ∧ ∀ j, j < n → Cs cs (off + j * 4) 4 (daC (A j)) ∧ Bys w (A j).v (A j).xs ∧ (A j).xs.length ≤ 140737488355327
/-- The client's own: is it known? -/
def indC (s : Option CS) : Nat := if s.isSome then 1 else 0
theorem putE_same {N M : Nat} {s : Option CS} {seq : Int} {bs : List Int} (hN : s = none → N < 1024) (hM : s = none → M < 1024) : putE N s seq bs = putE M s seq bs := by
  unfold putE
  cases s with
  | none =>
    have := hN rfl
    have := hM rfl
    simp
    omega
  | some c => simp
theorem putS_same {n : Int} {N M : Nat} {s : Option CS} {seq : Int} {bs : List Int} (hN : s = none → N < 1024) (hM : s = none → M < 1024) : putS n N s seq bs = putS n M s seq bs := by
  unfold putS
  rw [putE_same hN hM]
theorem putN_le {N : Nat} {s : Option CS} {seq : Int} {bs : List Int} : putN N s seq bs ≤ N + 1 := by
  unfold putN
  split <;> omega
theorem putN_ind {n : Int} {N k : Nat} {s : Option CS} {seq : Int} {bs : List Int} (h : N ≤ k + indC s) : putN N s seq bs ≤ k + indC (putS n N s seq bs) := by
  unfold putN putS
  by_cases he : putE N s seq bs = 0
  · rw [if_pos he]
    cases s with
    | none => simp [he, indC] at h ⊢; omega
    | some c => simp [indC] at h ⊢; omega
  · rw [if_neg (fun hh => he hh.1), if_neg he]
    exact h
/-- What the numbers of a window keep. -/
def Short (n : Int) (s : Option CS) : Prop := ∀ c, s = some c → (c.seqs.length : Int) ≤ n ∧ ∀ x xs, c.ans x = some xs → xs.length ≤ 65536
theorem bsGo_le (xs : List Int) (t : Int) : ∀ k lo hi, lo ≤ hi → hi ≤ xs.length → bsGo xs t k lo hi ≤ xs.length := by
  intro k
  induction k with
  | zero => intro lo hi h1 h2; simp [bsGo]; omega
  | succ k ih =>
    intro lo hi h1 h2
    unfold bsGo
    split
    · split
      · exact ih _ _ (by omega) h2
      · exact ih _ _ (by omega) (by omega)
    · omega
theorem bsL_le (xs : List Int) (t : Int) : bsL xs t ≤ xs.length := bsGo_le xs t _ _ _ (by omega) (by omega)
theorem insC_short {n : Int} {s : CS} {seq : Int} {bs : List Int} (h : (s.seqs.length : Int) ≤ n) (ha : ∀ x xs, s.ans x = some xs → xs.length ≤ 65536) (hb : bs.length ≤ 65536) : ((insC n s seq bs).seqs.length : Int) ≤ n ∧ ∀ x xs, (insC n s seq bs).ans x = some xs → xs.length ≤ 65536 := by
  have hl := insL_len (x := seq) (bsL_le s.seqs seq)
  have hu : ∀ x xs, updA s.ans seq (some bs) x = some xs → xs.length ≤ 65536 := by
    intro x xs hx
    unfold updA at hx
    split at hx
    · cases hx; exact hb
    · exact ha x xs hx
  unfold insC
  split
  · refine ⟨by simp; omega, fun x xs hx => ?_⟩
    dsimp only at hx
    rw [updA] at hx
    split at hx
    · cases hx
    · exact hu x xs hx
  · exact ⟨by dsimp only; omega, hu⟩
theorem putS_short {n : Int} {N : Nat} {s : Option CS} {seq : Int} {bs : List Int} (h1 : 1 ≤ n) (h : Short n s) : Short n (putS n N s seq bs) := by
  unfold putS
  split
  · rename_i he
    have hb : bs.length ≤ 65536 := by
      unfold putE at he
      split at he
      · omega
      · split at he
        · omega
        · omega
    intro c hc
    cases hc
    cases s with
    | none => exact insC_short (by simp [cs0]; omega) (by simp [cs0]) hb
    | some c => exact insC_short (h c rfl).1 (h c rfl).2 hb
  · exact h
/-- Two windows. -/
structure Two (z w : World) (n : Int) (W A : WS) : Prop where
  fr : Fr z w []
  pw : Wn w W
  pa : Wn w A
  dj : Dj W A
  gw : ∀ b, Foot W b → z.heap.size ≤ b
  ga : ∀ b, Foot A b → z.heap.size ≤ b
  nw : W.size = n
  na : A.size = n
  sw : ∀ id, Short n (st W id)
  sa : ∀ id, Short n (st A id)
theorem Two.ext {z w w' : World} {n : Int} {W A : WS} (h : Two z w n W A) (hf : Fr w w' []) : Two z w' n W A :=
  ⟨h.fr.then hf, h.pw.ext hf, h.pa.ext hf, h.dj, h.gw, h.ga, h.nw, h.na, h.sw, h.sa⟩
theorem Two.swap {z w : World} {n : Int} {W A : WS} (h : Two z w n W A) : Two z w n A W :=
  ⟨h.fr, h.pa, h.pw, fun b hb hb' => h.dj b hb' hb, h.ga, h.gw, h.na, h.nw, h.sa, h.sw⟩
theorem two_put (z w : World) (n : Int) (W A : WS) (id seq : Int) (V : Value) (bs : List Int) (h : Two z w n W A) (hV : Ans w V bs) (h1 : 1 ≤ n) (h2 : n ≤ 64) :
    Fn env.P 7 [.pointer (some ⟨W.wb, 0, none⟩), .int .u64 id, .int .u64 seq, V] w fun v w' => v = .int .i64 (putE W.N (st W id) seq bs) ∧ ∃ W', W'.wb = W.wb ∧ Two z w' n W' A ∧ st W' id = putS n W.N (st W id) seq bs ∧ (∀ y, y ≠ id → st W' y = st W y) ∧ W'.N = putN W.N (st W id) seq bs ∧ Fr w w' (footP W id) := by
  refine (put_any w W id seq V bs h.pw hV (by rw [h.nw]; exact h1) (by rw [h.nw]; exact h2) (st_len rfl (fun c hc => by rw [h.nw]; exact (h.sw id c hc).1))).mono ?_
  rintro v w' ⟨e1, e2, m', e3, e4, e5, e6⟩
  have hst : ∀ y, y ≠ id → st { W with m := m', N := putN W.N (st W id) seq bs } y = st W y := fun y hy => by
    show (m' y).map _ = (W.m y).map _
    rw [e4 y hy]
  have hst' : st { W with m := m', N := putN W.N (st W id) seq bs } id = putS n W.N (st W id) seq bs := by rw [← h.nw]; exact e5
  have hft : ∀ {b : Nat}, Foot { W with m := m', N := putN W.N (st W id) seq bs } b → Foot W b ∨ w.heap.size ≤ b := fun hb => PutPost.foot e4 e6 hb
  refine ⟨e1, { W with m := m', N := putN W.N (st W id) seq bs }, rfl, ⟨h.fr.grow e2 (fun b hb => h.gw b (footP_foot hb)), e3, h.pw.other h.pa h.dj e2 (fun b hb => footP_foot hb), fun b hb hb' => ?_, fun b hb => ?_, h.ga, h.nw, h.na, fun y => ?_, h.sa⟩, hst', hst, rfl, e2⟩
  · rcases hft hb with hb | hb
    · exact h.dj b hb hb'
    · have := h.pa.lt hb'
      omega
  · rcases hft hb with hb | hb
    · exact h.gw b hb
    · exact Nat.le_trans h.fr.size hb
  · by_cases e : y = id
    · subst e
      rw [hst']
      exact putS_short h1 (h.sw y)
    · rw [hst y e]
      exact h.sw y
theorem askB_short {n : Int} {s : Option CS} {seq : Int} (h : Short n s) : (askB s seq).length ≤ 65536 := by
  unfold askB
  cases s with
  | none => simp
  | some c =>
    dsimp only
    split
    · simp
    · cases ha : c.ans seq with
      | none => simp
      | some xs => simpa using (h c rfl).2 seq xs ha
end Go.Proofs.Ytaneenahapdabaa
