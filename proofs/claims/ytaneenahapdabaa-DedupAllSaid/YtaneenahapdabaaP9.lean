/- Layer 20: bytes of their own; where answers lie. -/
import Derived.Test.YtaneenahapdabaaP4
namespace Go.Proofs.Ytaneenahapdabaa
open Go
set_option maxRecDepth 20000
set_option maxHeartbeats 2000000
attribute [local irreducible] Run Ops Fn Draw Draw2 PureOp StepZ

/-- Bytes of their own: fresh, or none and no room. -/
def Fresh5 (w : World) (z : Nat) (v : Value) (xs : List Int) : Prop :=
  ∃ a cap, v = .slice a xs.length cap ∧ cap ≤ 9223372036854775807 ∧ ((xs = [] ∧ cap = 0) ∨ ∃ b cs, a = some ⟨b, 0, none⟩ ∧ z ≤ b ∧ xs.length ≤ cap ∧ w.heap[b]? = some (row cs 5) ∧ cs.length = cap ∧ Cs cs 0 xs.length (u8s xs))
theorem Fresh5.ans {w : World} {z : Nat} {v : Value} {xs : List Int} (h : Fresh5 w z v xs) : Ans w v xs := by
  obtain ⟨a, cap, rfl, h1, ⟨rfl, rfl⟩ | ⟨b, cs, rfl, h2, h3, h4, h5, h6⟩⟩ := h
  · exact ⟨a, 0, 0, [], (0, 0), rfl, by simp, h1, fun h => absurd h (Nat.lt_irrefl 0), .nil⟩
  · exact ⟨_, cap, b, cs, (0, 0), rfl, h3, h1, fun _ => ⟨rfl, h4⟩, h6⟩
theorem Fresh5.ext {w w' : World} {z : Nat} {v : Value} {xs : List Int} (h : Fresh5 w z v xs) (hf : Fr w w' []) : Fresh5 w' z v xs := by
  obtain ⟨a, cap, rfl, h1, h | ⟨b, cs, rfl, h2, h3, h4, h5, h6⟩⟩ := h
  · exact ⟨a, cap, rfl, h1, .inl h⟩
  · exact ⟨_, cap, rfl, h1, .inr ⟨b, cs, rfl, h2, h3, hf.get h4 (by simp), h5, h6⟩⟩
theorem Fresh5.low {w : World} {z z' : Nat} {v : Value} {xs : List Int} (h : Fresh5 w z v xs) (hz : z' ≤ z) : Fresh5 w z' v xs := by
  obtain ⟨a, cap, rfl, h1, h | ⟨b, cs, rfl, h2, h3, h4, h5, h6⟩⟩ := h
  · exact ⟨a, cap, rfl, h1, .inl h⟩
  · exact ⟨_, cap, rfl, h1, .inr ⟨b, cs, rfl, Nat.le_trans hz h2, h3, h4, h5, h6⟩⟩
theorem bclone_fresh (z : World) (v : Value) (xs : List Int) (hv : Bys z v xs) (hb : xs.length ≤ 140737488355327) :
    Fn env.P 20 [v] z fun r w' => Fresh5 w' z.heap.size r xs ∧ Fr z w' [] := by
  have hv' := hv
  obtain ⟨a, cap, b, off, cs, T, fz, rfl, h2, h3, h4, h5⟩ := hv
  cases a with
  | none =>
    have h0 : xs.length = 0 := by
      rcases Nat.eq_zero_or_pos xs.length with h | h
      · exact h
      · have := (h4 h).1; cases this
    have hx : xs = [] := List.eq_nil_of_length_eq_zero h0
    subst hx
    have H := Holds.start z []
    have HF := Try.func20; refine Fn.enter Try.func20 Try.ntmps20 rfl rfl rfl ?_
    (refine Run.seq (Run.region ?_); intro K hK)
    refine Ops.pure H (X.assign rfl) rfl rfl rfl ?_
    (refine Ops.nil (hK _ _ ?_); clear hK K)
    refine Run.seq ?_
    (refine Run.seq (Run.region ?_); intro K hK)
    refine Ops.pure H (X.move rfl) rfl rfl rfl ?_
    refine Ops.pure H (X.sliceNil rfl rfl rfl rfl rfl) rfl rfl rfl ?_
    (refine Ops.nil (hK _ _ ?_); clear hK K)
    refine Run.cond_true rfl ?_
    (refine Run.seq (Run.region ?_); intro K hK)
    refine Ops.pure H (X.assign rfl) rfl rfl rfl ?_
    (refine Ops.nil (hK _ _ ?_); clear hK K)
    refine Fn.ret1 HF rfl rfl ?_
    exact ⟨⟨none, 0, rfl, by omega, .inl ⟨rfl, rfl⟩⟩, H.fr⟩
  | some a =>
    by_cases h0 : 0 < xs.length
    · have H := Holds.start z []
      have HF := Try.func20; refine Fn.enter Try.func20 Try.ntmps20 rfl rfl rfl ?_
      (refine Run.seq (Run.region ?_); intro K hK)
      refine Ops.pure H (X.assign rfl) rfl rfl rfl ?_
      (refine Ops.nil (hK _ _ ?_); clear hK K)
      refine Run.seq ?_
      (refine Run.seq (Run.region ?_); intro K hK)
      refine Ops.pure H (X.move rfl) rfl rfl rfl ?_
      refine Ops.pure H (X.sliceNil rfl rfl rfl rfl rfl) rfl rfl rfl ?_
      (refine Ops.nil (hK _ _ ?_); clear hK K)
      refine Run.cond_false rfl ?_
      refine Run.skip ?_
      (refine Run.seq (Run.region ?_); intro K hK)
      (refine Ops.eff rfl (Y.buildSliceO rfl rfl rfl rfl rfl rfl rfl rfl H ?_); intro b5 w H0 hb5; clear H; have H := H0; clear H0)
      refine Ops.pure H (X.move rfl) rfl rfl rfl ?_
      refine Ops.eff rfl (Y.append_grow (olds := []) (news := u8s xs) rfl rfl rfl rfl rfl H (by omega) Src.nil rfl (by simp) ((hv'.ext H.fr).src) rfl (by dsimp only; omega) (by omega) rfl ?_)
      intro b7 cap7 sp w H hb7 hc7 hm7 hsp
      refine Ops.pure H (X.assign rfl) rfl rfl rfl ?_
      (refine Ops.nil (hK _ _ ?_); clear hK K)
      refine Fn.ret1 HF rfl rfl ?_
      refine ⟨⟨_, cap7, by rw [Nat.zero_add], hm7, .inr ⟨b7, _, rfl, hb7, by omega, H.pick .head, ?_, (Cs.mid [] _ _).cast rfl (by simp) rfl⟩⟩, H.fr⟩
      dsimp only at hsp
      simp
      omega
    · have hx : xs = [] := List.eq_nil_of_length_eq_zero (by omega)
      subst hx
      have H := Holds.start z []
      have HF := Try.func20; refine Fn.enter Try.func20 Try.ntmps20 rfl rfl rfl ?_
      (refine Run.seq (Run.region ?_); intro K hK)
      refine Ops.pure H (X.assign rfl) rfl rfl rfl ?_
      (refine Ops.nil (hK _ _ ?_); clear hK K)
      refine Run.seq ?_
      (refine Run.seq (Run.region ?_); intro K hK)
      refine Ops.pure H (X.move rfl) rfl rfl rfl ?_
      refine Ops.pure H (X.sliceNil rfl rfl rfl rfl rfl) rfl rfl rfl ?_
      (refine Ops.nil (hK _ _ ?_); clear hK K)
      refine Run.cond_false rfl ?_
      refine Run.skip ?_
      (refine Run.seq (Run.region ?_); intro K hK)
      (refine Ops.eff rfl (Y.buildSliceO rfl rfl rfl rfl rfl rfl rfl rfl H ?_); intro b5 w H0 hb5; clear H; have H := H0; clear H0)
      refine Ops.pure H (X.move rfl) rfl rfl rfl ?_
      refine Ops.eff rfl (Y.append_room (news := []) rfl rfl rfl rfl rfl H .head (by simp) (by simp) rfl Src.nil (by simp) rfl ?_)
      intro w' H'
      clear H
      have H := H'
      clear H'
      refine Ops.pure H (X.assign rfl) rfl rfl rfl ?_
      (refine Ops.nil (hK _ _ ?_); clear hK K)
      refine Fn.ret1 HF rfl rfl ?_
      exact ⟨⟨_, _, rfl, by simp, .inl ⟨rfl, rfl⟩⟩, H.fr⟩
theorem Mp.uniq {k : IntKind} {es : Array MapEntry} {f f' : Int → Option Value} (h : Mp k es f) (h' : Mp k es f') : f = f' := by
  have key : ∀ {f f' : Int → Option Value}, Mp k es f → Mp k es f' → ∀ x v, f x = some v → f' x = some v := fun h h' x v hx => by
    obtain ⟨i, e, h1, h2, h3⟩ := h.has x v hx
    obtain ⟨y, h4, h5⟩ := h'.key i e h1
    rw [h2] at h4
    cases h4
    rw [h5, h3]
  funext x
  cases hx : f x with
  | some v => exact (key h h' x v hx).symm
  | none =>
    cases hx' : f' x with
    | none => rfl
    | some v => rw [key h' h x v hx'] at hx; cases hx
/-- A value that lies in no block older than this. -/
def NewV (B : Nat) (v : Value) : Prop := ∀ n, 0 < n → ∀ b cap, v = .slice (some ⟨b, 0, none⟩) n cap → B ≤ b
theorem NewV.low {B B' : Nat} {v : Value} (h : NewV B v) (hB : B' ≤ B) : NewV B' v := fun n hn b cap e => Nat.le_trans hB (h n hn b cap e)
theorem Fresh5.newV {w : World} {z : Nat} {v : Value} {xs : List Int} (h : Fresh5 w z v xs) : NewV z v := by
  obtain ⟨a, cap, rfl, h1, ⟨rfl, rfl⟩ | ⟨b, cs, rfl, h2, h3, h4, h5, h6⟩⟩ := h
  · intro n hn b' cap' e
    simp at e
    omega
  · intro n hn b' cap' e
    simp at e
    obtain ⟨rfl, _⟩ := e
    exact h2
/-- All answers of a window lie in no block older than this. -/
def PV (B : Nat) (w : World) (W : WS) : Prop := ∀ x c, W.m x = some c → ∀ es k f, w.heap[c.ab]? = some (.map es k) → Mp .u64 es f → ∀ y v, f y = some v → NewV B v
theorem PV.keep {B : Nat} {w w' : World} {W : WS} {S : List Nat} (h : PV B w W) (hW : Wn w W) (hf : Fr w w' S) (hS : ∀ b ∈ S, ¬ Foot W b) : PV B w' W := fun x c hx es k f hm hM => by
  obtain ⟨_, ces, ck, cf, b3, b4, b5⟩ := hW.cl x c hx
  rw [hf.get b3 (fun hm => hS _ hm (.inr (.inr ⟨x, c, hx, by simp [footC]⟩)))] at hm
  cases hm
  exact h x c hx _ _ f b3 hM
end Go.Proofs.Ytaneenahapdabaa
