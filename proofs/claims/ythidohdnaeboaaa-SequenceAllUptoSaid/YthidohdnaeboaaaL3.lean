/- Walks of the law of all orders: looks. -/
import Derived.Test.YthidohdnaeboaaaL2
namespace Go.Proofs.Ythidohdnaeboaaa
open Go
set_option maxRecDepth 20000
set_option maxHeartbeats 2000000
attribute [local irreducible] Run Ops Fn Draw Draw2 PureOp StepZ

theorem Ints.nil {w : World} : Ints w (.slice none 0 0) [] := ⟨.none, 0, 0, 0, [], 0, (0, 0), rfl, by simp, by omega, fun h => absurd h (Nat.lt_irrefl 0), .nil⟩
theorem Ints.slice {w : World} {v : Value} {xs : List Int} (h : Ints w v xs) : ∃ a cap, v = .slice a xs.length cap := by
  obtain ⟨a, cap, _, _, _, _, _, rfl, _⟩ := h
  exact ⟨a, cap, rfl⟩
def tkOf (l : List Tk) (id : Int) : Tk × Int := if findL l id = -1 then (tk0, 240) else (l.getD (findL l id).toNat tk0, 0)
theorem tkOf_no {l : List Tk} {id : Int} (h : findL l id = -1) : tkOf l id = (tk0, 240) := by unfold tkOf; rw [if_pos h]
theorem tkOf_yes {l : List Tk} {id : Int} {i : Nat} (h : findL l id = i) : tkOf l id = (l.getD i tk0, 0) := by unfold tkOf; rw [if_neg (by omega), h]; rfl
def nextOf (n : Int) (l : List Tk) (p : Int) : Int × Bool × Int :=
  if 0 ≤ p ∧ p < n then (if firstL l p = -1 then (0, false, 0) else ((l.getD (firstL l p).toNat tk0).id, mayL l (firstL l p).toNat, 0)) else (0, false, 1)
def queueOf (n : Int) (l : List Tk) (p : Int) : List Int × Int := if 0 ≤ p ∧ p < n then (queueTo l p l.length, 0) else ([], 1)
theorem ticket_all (z : World) (o c : Nat) (n last : Int) (l : List Tk) (id : Int) (h : Ord z o c n last l) :
    Fn env.P 20 [.pointer (some ⟨o, 0, none⟩), .int .u64 id] z fun v w' => Fr z w' [] ∧ ∃ a m, v = .tuple #[.agg (tkC (tkOf l id).1 (.slice a (tkOf l id).1.parts.length m)).toArray, .int .i64 (tkOf l id).2] ∧ Ints w' (.slice a (tkOf l id).1.parts.length m) (tkOf l id).1.parts :=
  (ticket_any z o c n last l id h).mono fun v w' ⟨hf, ht⟩ => by
    refine ⟨hf, ?_⟩
    rcases ht with ⟨e, rfl⟩ | ⟨i, _, e, v', b, rfl, hb, _⟩
    · rw [tkOf_no e]
      exact ⟨none, 0, rfl, Ints.nil⟩
    · rw [tkOf_yes e]
      obtain ⟨a, m, rfl⟩ := hb.ints.slice
      exact ⟨a, m, rfl, hb.ints⟩
theorem rticket_all (z : World) (o c : Nat) (n last : Int) (l : List Tk) (id : Int) (h : ROrd z o c n last l) (hl : l.length ≤ 4096) :
    Fn env.P 56 [.pointer (some ⟨o, 0, none⟩), .int .u64 id] z fun v w' => Fr z w' [] ∧ ∃ a m, v = .tuple #[.agg (tkC (tkOf l id).1 (.slice a (tkOf l id).1.parts.length m)).toArray, .int .i64 (tkOf l id).2] ∧ Ints w' (.slice a (tkOf l id).1.parts.length m) (tkOf l id).1.parts :=
  (rticket_any z o c n last l id h hl).mono fun v w' ⟨hf, ht⟩ => by
    refine ⟨hf, ?_⟩
    rcases ht with ⟨e, rfl⟩ | ⟨i, _, e, v', b, rfl, hb, _⟩
    · rw [tkOf_no e]
      exact ⟨none, 0, rfl, Ints.nil⟩
    · rw [tkOf_yes e]
      obtain ⟨a, m, rfl⟩ := hb.ints.slice
      exact ⟨a, m, rfl, hb.ints⟩
theorem queue_all (z : World) (o c : Nat) (n last p : Int) (l : List Tk) (h : Ord z o c n last l) (hl : l.length ≤ 4096) :
    Fn env.P 57 [.pointer (some ⟨o, 0, none⟩), .int .i64 p] z fun v w' => ∃ u, v = .tuple #[u, .int .i64 (queueOf n l p).2] ∧ Own w' z.heap.size 30 1 u (queueOf n l p).1.length (u64s (queueOf n l p).1) ∧ Fr z w' [] := by
  by_cases hp : 0 ≤ p ∧ p < n
  · unfold queueOf
    rw [if_pos hp]
    exact queue_yes z o c n last p l h hp hl
  · unfold queueOf
    rw [if_neg hp]
    refine (queue_no z o c n last p l h hp).mono fun v w' ⟨h1, h2⟩ => ?_
    subst h1 h2
    exact ⟨_, rfl, Own.nil, Fr.refl _ _⟩
theorem rqueue_all (z : World) (o c : Nat) (n last p : Int) (l : List Tk) (h : ROrd z o c n last l) (hl : l.length ≤ 4096) :
    Fn env.P 58 [.pointer (some ⟨o, 0, none⟩), .int .i64 p] z fun v w' => ∃ u, v = .tuple #[u, .int .i64 (queueOf n l p).2] ∧ Own w' z.heap.size 30 1 u (queueOf n l p).1.length (u64s (queueOf n l p).1) ∧ Fr z w' [] := by
  by_cases hp : 0 ≤ p ∧ p < n
  · unfold queueOf
    rw [if_pos hp]
    exact rqueue_yes z o c n last p l h hp hl
  · unfold queueOf
    rw [if_neg hp]
    refine (rqueue_no z o c n last p l h hp).mono fun v w' ⟨h1, h2⟩ => ?_
    subst h1 h2
    exact ⟨_, rfl, Own.nil, Fr.refl _ _⟩
theorem next_all (z : World) (o c : Nat) (n last p : Int) (l : List Tk) (h : Ord z o c n last l) :
    Fn env.P 59 [.pointer (some ⟨o, 0, none⟩), .int .i64 p] z fun v w' => v = .tuple #[.int .u64 (nextOf n l p).1, .bool (nextOf n l p).2.1, .int .i64 (nextOf n l p).2.2] ∧ Fr z w' [] := by
  by_cases hp : 0 ≤ p ∧ p < n
  · refine (next_yes z o c n last p l h hp).mono fun v w' ⟨h1, h2⟩ => ⟨?_, h1⟩
    unfold nextOf
    rw [if_pos hp]
    rcases h2 with ⟨e, rfl⟩ | ⟨i, _, e, rfl⟩
    · rw [if_pos e]
    · rw [if_neg (by omega), e]
      rfl
  · refine (next_no z o c n last p l h hp).mono fun v w' ⟨h1, h2⟩ => ⟨?_, h2⟩
    unfold nextOf
    rw [if_neg hp]
    exact h1
theorem rnext_all (z : World) (o c : Nat) (n last p : Int) (l : List Tk) (h : ROrd z o c n last l) (hL : LInv n last l) :
    Fn env.P 60 [.pointer (some ⟨o, 0, none⟩), .int .i64 p] z fun v w' => v = .tuple #[.int .u64 (nextOf n l p).1, .bool (nextOf n l p).2.1, .int .i64 (nextOf n l p).2.2] ∧ Fr z w' [] := by
  by_cases hp : 0 ≤ p ∧ p < n
  · refine (rnext_yes z o c n last p l h hp hL).mono fun v w' ⟨h1, h2⟩ => ⟨?_, h1⟩
    unfold nextOf
    rw [if_pos hp]
    rcases h2 with ⟨e, rfl⟩ | ⟨i, _, e, rfl⟩
    · rw [if_pos e]
    · rw [if_neg (by omega), e]
      rfl
  · refine (rnext_no z o c n last p l h hp).mono fun v w' ⟨h1, h2⟩ => ⟨?_, h2⟩
    unfold nextOf
    rw [if_neg hp]
    exact h1
theorem Own.blocks {w : World} {z z' el sz el' sz' n n' : Nat} {v u : Value} {vs us : List Value} (h : Own w z el sz v n vs) (h' : Own w z' el' sz' u n' us) (hb : ∀ b n c, v = .slice (some ⟨b, 0, none⟩) n c → b < z') : ∀ b b' n n' c c', v = .slice (some ⟨b, 0, none⟩) n c → u = .slice (some ⟨b', 0, none⟩) n' c' → b ≠ b' := by
  intro b b' n1 n1' c c' e e'
  have h1 := hb _ _ _ e
  rcases h' with ⟨_, _, rfl⟩ | ⟨b2, cap, cs, rfl, _, _, h4, _⟩
  · cases e'
  · cases e'
    omega
theorem Own.lt {w : World} {z el sz n : Nat} {v : Value} {vs : List Value} (h : Own w z el sz v n vs) : ∀ b n c, v = .slice (some ⟨b, 0, none⟩) n c → b < w.heap.size := by
  intro b n c e
  rcases h with ⟨_, _, rfl⟩ | ⟨b2, cap, cs, rfl, _, _, _, h5, _⟩
  · cases e
  · cases e
    exact lt_of_at h5
theorem looks_any (z : World) (x : Nat) (n : Int) (q : PQ) (id p : Int) (h : Pr z x n q) :
    Fn env.P 41 [.pointer (some ⟨x, 0, none⟩), .int .u64 id, .int .i64 p] z fun v w' => v = .bool true ∧ Fr z w' [] := by
  obtain ⟨o, c, d, r, last, l⟩ := q
  obtain ⟨hx, hp, hd, _, _, _, hL⟩ := h
  dsimp only at hx hp hd hL
  have hl := hL.len
  have H := (Holds.start z []).add false hx (by simp) (by simp)
  have HF := Try.func41; refine Fn.enter Try.func41 Try.ntmps41 rfl rfl rfl ?_
  refine Run.seq ?_
  (refine Run.region ?_; intro K hK)
  refine Ops.pure H (X.assign rfl) rfl rfl rfl ?_
  (refine Ops.nil (hK _ _ ?_); clear hK K)
  refine Run.seq ?_
  (refine Run.region ?_; intro K hK)
  refine Ops.pure H (X.move rfl) rfl rfl rfl ?_
  refine Ops.pure H (X.nilCheck rfl) rfl rfl rfl ?_
  refine Ops.pure H (X.fieldAddr rfl rfl rfl rfl rfl rfl) rfl rfl rfl ?_
  refine Ops.pure H (X.load1 rfl rfl rfl rfl Pick.head rfl) rfl rfl rfl ?_
  refine Ops.pure H (X.move rfl) rfl rfl rfl ?_
  refine Ops.eff rfl (Y.call rfl rfl (by first | assumption | decide +kernel) rfl (ticket_all _ o c n last l id (hp.ext H.fr)) rfl ?_)
  rintro v w1 ⟨hf1, a1, m1, rfl, hI1⟩
  replace H := H.ext hf1
  generalize hT : (tkOf l id).1 = T at hI1 ⊢
  simp only [tkC]
  have hZ1 := H.fr
  replace H := H.anew (S' := []) (G' := [⟨_, _, false⟩]) (by repeat constructor) (by simp)
  refine Ops.pure H (X.move rfl) rfl rfl rfl ?_
  refine Ops.pure H (X.extract rfl rfl) rfl rfl rfl ?_
  refine Ops.pure H (X.extract rfl rfl) rfl rfl rfl ?_
  (refine Ops.eff rfl (Y.alloc rfl rfl rfl H ?_); intro b7 w H0 hb7; clear H; have H := H0; clear H0)
  (refine Ops.eff rfl (Y.storeO rfl rfl rfl rfl rfl rfl H Upd.head rfl ?_); intro w H0; clear H; have H := H0; clear H0)
  refine Ops.pure H (X.assign rfl) rfl rfl rfl ?_
  (refine Ops.nil (hK _ _ ?_); clear hK K)
  refine Run.seq ?_
  (refine Run.region ?_; intro K hK)
  refine Ops.pure H (X.move rfl) rfl rfl rfl ?_
  refine Ops.pure H (X.nilCheck rfl) rfl rfl rfl ?_
  refine Ops.pure H (X.fieldAddr rfl rfl rfl rfl rfl rfl) rfl rfl rfl ?_
  refine Ops.pure H (X.load1 rfl rfl rfl rfl (.tail .head) rfl) rfl rfl rfl ?_
  refine Ops.pure H (X.move rfl) rfl rfl rfl ?_
  refine Ops.eff rfl (Y.call rfl rfl (by first | assumption | decide +kernel) rfl (rticket_all _ d r n last l id (hd.ext (hZ1.then H.fr)) hl) rfl ?_)
  rintro v w2 ⟨hf2, a2, m2, rfl, hI2⟩
  replace H := H.ext hf2
  rw [hT] at hI2 ⊢
  simp only [tkC]
  have hZ2 := hZ1.then H.fr
  replace hI1 := hI1.ext H.fr
  replace H := H.anew (S' := []) (G' := [⟨_, _, false⟩, ⟨_, _, false⟩]) (by repeat constructor) (by simp)
  refine Ops.pure H (X.move rfl) rfl rfl rfl ?_
  refine Ops.pure H (X.extract rfl rfl) rfl rfl rfl ?_
  refine Ops.pure H (X.extract rfl rfl) rfl rfl rfl ?_
  (refine Ops.eff rfl (Y.alloc rfl rfl rfl H ?_); intro b9 w H0 hb9; clear H; have H := H0; clear H0)
  (refine Ops.eff rfl (Y.storeO rfl rfl rfl rfl rfl rfl H Upd.head rfl ?_); intro w H0; clear H; have H := H0; clear H0)
  refine Ops.pure H (X.assign rfl) rfl rfl rfl ?_
  (refine Ops.nil (hK _ _ ?_); clear hK K)
  refine Run.seq ?_
  (refine Run.region ?_; intro K hK)
  refine Ops.pure H (X.move rfl) rfl rfl rfl ?_
  refine Ops.pure H (X.nilCheck rfl) rfl rfl rfl ?_
  refine Ops.pure H (X.fieldAddr rfl rfl rfl rfl rfl rfl) rfl rfl rfl ?_
  refine Ops.pure H (X.load1 rfl rfl rfl rfl (.tail (.tail .head)) rfl) rfl rfl rfl ?_
  refine Ops.pure H (X.move rfl) rfl rfl rfl ?_
  refine Ops.eff rfl (Y.call rfl rfl (by first | assumption | decide +kernel) rfl (queue_all _ o c n last p l (hp.ext (hZ2.then H.fr)) hl) rfl ?_)
  rintro v w3 ⟨u, rfl, hU1, hf3⟩
  have hzq := (hZ2.then H.fr).size
  replace H := H.ext hf3
  have hZ3 := hZ2.then H.fr
  replace hI1 := hI1.ext H.fr
  replace hI2 := hI2.ext H.fr
  have hzu := (hZ3.size : z.heap.size ≤ w3.heap.size)
  replace H := H.anew (S' := []) (G' := [⟨_, _, false⟩, ⟨_, _, false⟩, ⟨_, _, false⟩]) (by repeat constructor) (by simp)
  obtain ⟨xs, e, hxe⟩ : ∃ xs e, queueOf n l p = (xs, e) := ⟨_, _, rfl⟩
  rw [hxe] at hU1 ⊢
  dsimp only at hU1 ⊢
  refine Ops.pure H (X.move rfl) rfl rfl rfl ?_
  refine Ops.pure H (X.extract rfl rfl) rfl rfl rfl ?_
  refine Ops.pure H (X.extract rfl rfl) rfl rfl rfl ?_
  refine Ops.pure H (X.assign rfl) rfl rfl rfl ?_
  refine Ops.pure H (X.assign rfl) rfl rfl rfl ?_
  (refine Ops.nil (hK _ _ ?_); clear hK K)
  refine Run.seq ?_
  (refine Run.region ?_; intro K hK)
  refine Ops.pure H (X.move rfl) rfl rfl rfl ?_
  refine Ops.pure H (X.nilCheck rfl) rfl rfl rfl ?_
  refine Ops.pure H (X.fieldAddr rfl rfl rfl rfl rfl rfl) rfl rfl rfl ?_
  refine Ops.pure H (X.load1 rfl rfl rfl rfl (.tail (.tail .head)) rfl) rfl rfl rfl ?_
  refine Ops.pure H (X.move rfl) rfl rfl rfl ?_
  refine Ops.eff rfl (Y.call rfl rfl (by first | assumption | decide +kernel) rfl (rqueue_all _ d r n last p l (hd.ext (hZ3.then H.fr)) hl) rfl ?_)
  rintro v w4 ⟨u', rfl, hU2, hf4⟩
  rw [hxe] at hU2 ⊢
  dsimp only at hU2 ⊢
  have hub := (hU1.ext H.fr).lt
  replace H := H.ext hf4
  have hZ4 := hZ3.then H.fr
  replace hI1 := hI1.ext H.fr
  replace hI2 := hI2.ext H.fr
  replace hU1 := hU1.ext H.fr
  have hne := hU1.blocks hU2 hub
  replace H := H.anew (S' := []) (G' := [⟨_, _, false⟩, ⟨_, _, false⟩, ⟨_, _, false⟩]) (by repeat constructor) (by simp)
  obtain ⟨e1, e2, e3, hE⟩ : ∃ e1 e2 e3, nextOf n l p = (e1, e2, e3) := ⟨_, _, _, rfl⟩
  refine Ops.pure H (X.move rfl) rfl rfl rfl ?_
  refine Ops.pure H (X.extract rfl rfl) rfl rfl rfl ?_
  refine Ops.pure H (X.extract rfl rfl) rfl rfl rfl ?_
  refine Ops.pure H (X.assign rfl) rfl rfl rfl ?_
  refine Ops.pure H (X.assign rfl) rfl rfl rfl ?_
  (refine Ops.nil (hK _ _ ?_); clear hK K)
  refine Run.seq ?_
  (refine Run.region ?_; intro K hK)
  refine Ops.pure H (X.move rfl) rfl rfl rfl ?_
  refine Ops.pure H (X.nilCheck rfl) rfl rfl rfl ?_
  refine Ops.pure H (X.fieldAddr rfl rfl rfl rfl rfl rfl) rfl rfl rfl ?_
  refine Ops.pure H (X.load1 rfl rfl rfl rfl (.tail (.tail .head)) rfl) rfl rfl rfl ?_
  refine Ops.pure H (X.move rfl) rfl rfl rfl ?_
  refine Ops.eff rfl (Y.call rfl rfl (by first | assumption | decide +kernel) rfl (next_all _ o c n last p l (hp.ext (hZ4.then H.fr))) rfl ?_)
  rintro v w5 ⟨rfl, hf5⟩
  rw [hE]
  replace H := H.ext hf5
  refine Ops.pure H (X.move rfl) rfl rfl rfl ?_
  refine Ops.pure H (X.extract rfl rfl) rfl rfl rfl ?_
  refine Ops.pure H (X.extract rfl rfl) rfl rfl rfl ?_
  refine Ops.pure H (X.extract rfl rfl) rfl rfl rfl ?_
  refine Ops.pure H (X.assign rfl) rfl rfl rfl ?_
  refine Ops.pure H (X.assign rfl) rfl rfl rfl ?_
  refine Ops.pure H (X.assign rfl) rfl rfl rfl ?_
  (refine Ops.nil (hK _ _ ?_); clear hK K)
  refine Run.seq ?_
  (refine Run.region ?_; intro K hK)
  refine Ops.pure H (X.move rfl) rfl rfl rfl ?_
  refine Ops.pure H (X.nilCheck rfl) rfl rfl rfl ?_
  refine Ops.pure H (X.fieldAddr rfl rfl rfl rfl rfl rfl) rfl rfl rfl ?_
  refine Ops.pure H (X.load1 rfl rfl rfl rfl (.tail (.tail .head)) rfl) rfl rfl rfl ?_
  refine Ops.pure H (X.move rfl) rfl rfl rfl ?_
  refine Ops.eff rfl (Y.call rfl rfl (by first | assumption | decide +kernel) rfl (rnext_all _ d r n last p l (hd.ext (hZ4.then H.fr)) hL) rfl ?_)
  rintro v w6 ⟨rfl, hf6⟩
  rw [hE]
  replace H := H.ext hf6
  refine Ops.pure H (X.move rfl) rfl rfl rfl ?_
  refine Ops.pure H (X.extract rfl rfl) rfl rfl rfl ?_
  refine Ops.pure H (X.extract rfl rfl) rfl rfl rfl ?_
  refine Ops.pure H (X.extract rfl rfl) rfl rfl rfl ?_
  refine Ops.pure H (X.assign rfl) rfl rfl rfl ?_
  refine Ops.pure H (X.assign rfl) rfl rfl rfl ?_
  refine Ops.pure H (X.assign rfl) rfl rfl rfl ?_
  (refine Ops.nil (hK _ _ ?_); clear hK K)
  refine Run.seq ?_
  (refine Run.region ?_; intro K hK)
  refine Ops.pure H (X.loadN rfl rfl rfl (.tail .head) (Cs.take rfl)) rfl rfl rfl ?_
  refine Ops.pure H (X.loadN rfl rfl rfl Pick.head (Cs.take rfl)) rfl rfl rfl ?_
  refine Ops.eff rfl (Y.call rfl rfl (by first | assumption | decide +kernel) rfl (same_any _ T T _ _ 0 0 (hI1.ext H.fr) (hI2.ext H.fr) ⟨rfl, rfl, rfl, rfl⟩) rfl ?_)
  rintro v w7 ⟨rfl, hf7⟩
  replace H := H.ext hf7
  refine Ops.pure H (X.move rfl) rfl rfl rfl ?_
  refine Ops.pure H (X.move rfl) rfl rfl rfl ?_
  refine Ops.pure H (X.move rfl) rfl rfl rfl ?_
  refine Ops.pure H (X.cmp rfl rfl rfl) rfl rfl rfl ?_
  refine Ops.pure H (X.pick_t rfl rfl) rfl rfl rfl ?_
  refine Ops.pure H (X.move rfl) rfl rfl rfl ?_
  refine Ops.split_dec rfl rfl (fun h86 => ?x0) (fun h86 => ?y0)
  case' y0 => exfalso; omega
  case' x0 =>
    refine Ops.pure H (X.move rfl) rfl rfl rfl ?_
    refine Ops.pure H (X.move rfl) rfl rfl rfl ?_
  refine Ops.eff rfl (Y.call rfl rfl (by first | assumption | decide +kernel) rfl (numbers_any _ u u' _ _ xs (hU1.ext H.fr) (hU2.ext H.fr) hne) rfl ?_)
  rintro v w8 ⟨rfl, S, hf8, hS⟩
  have hZ8 := (hZ4.then H.fr).grow hf8 (fun x hx => Nat.le_trans hzq (hS x hx))
  clear H
  have H := Holds.start w8 []
  refine Ops.pure H (X.pick_t rfl rfl) rfl rfl rfl ?_
  refine Ops.pure H (X.move rfl) rfl rfl rfl ?_
  refine Ops.pure H (X.move rfl) rfl rfl rfl ?_
  refine Ops.pure H (X.move rfl) rfl rfl rfl ?_
  refine Ops.pure H (X.cmp rfl rfl rfl) rfl rfl rfl ?_
  refine Ops.pure H (X.pick_t rfl rfl) rfl rfl rfl ?_
  refine Ops.pure H (X.move rfl) rfl rfl rfl ?_
  refine Ops.split_dec rfl rfl (fun h96 => ?x1) (fun h96 => ?y1)
  case' y1 => exfalso; omega
  case' x1 =>
    refine Ops.pure H (X.move rfl) rfl rfl rfl ?_
    refine Ops.pure H (X.move rfl) rfl rfl rfl ?_
    refine Ops.pure H (X.cmp rfl rfl rfl) rfl rfl rfl ?_
    refine Ops.pure H (X.pick_t rfl rfl) rfl rfl rfl ?_
    refine Ops.pure H (X.move rfl) rfl rfl rfl ?_
    refine Ops.split_dec rfl rfl (fun h101 => ?x2) (fun h101 => ?y2)
    case' y2 => exfalso; omega
    case' x2 =>
      refine Ops.pure H (X.move rfl) rfl rfl rfl ?_
      refine Ops.pure H (X.move rfl) rfl rfl rfl ?_
      refine Ops.pure H (X.boolEq rfl rfl rfl rfl rfl) rfl rfl rfl ?_
      refine Ops.pure H (X.pick_t rfl rfl) rfl rfl rfl ?_
      refine Ops.pure H (X.move rfl) rfl rfl rfl ?_
      refine Ops.split_dec rfl rfl (fun h106 => ?x3) (fun h106 => ?y3)
      case' y3 =>
        refine Ops.pass rfl rfl rfl ?_
        refine Ops.pass rfl rfl rfl ?_
        refine Ops.pass rfl rfl rfl ?_
        refine Ops.pure H (X.pick_f rfl rfl) rfl rfl rfl ?_
        refine Ops.pure H (X.assign rfl) rfl rfl rfl ?_
        (refine Ops.nil (hK _ _ ?_); clear hK K)
      case' x3 =>
        refine Ops.pure H (X.move rfl) rfl rfl rfl ?_
        refine Ops.pure H (X.move rfl) rfl rfl rfl ?_
        refine Ops.pure H (X.cmp rfl rfl rfl) rfl rfl rfl ?_
        refine Ops.pure H (X.pick_t rfl rfl) rfl rfl rfl ?_
        refine Ops.pure H (X.assign rfl) rfl rfl rfl ?_
        (refine Ops.nil (hK _ _ ?_); clear hK K)
  all_goals (first | refine Fn.ret1 HF rfl rfl ?_ | refine Fn.ret2 HF rfl rfl rfl ?_ | refine Fn.ret3 HF rfl rfl rfl rfl ?_ | refine Fn.ret0 HF rfl ?_ | refine Fn.fin0 HF rfl ?_ | refine Fn.retG (E := env) HF rfl H (by first | exact RVs.cellN rfl rfl rfl (by first | exact .head | exact .tail .head | exact .tail (.tail .head) | exact .tail (.tail (.tail .head)) | exact .tail (.tail (.tail (.tail .head))) | exact .tail (.tail (.tail (.tail (.tail .head)))) | exact .tail (.tail (.tail (.tail (.tail (.tail .head)))))) (by first | assumption | exact Cs.take rfl) RVs.nil | exact RVs.cellN rfl rfl rfl (by first | exact .head | exact .tail .head | exact .tail (.tail .head) | exact .tail (.tail (.tail .head)) | exact .tail (.tail (.tail (.tail .head))) | exact .tail (.tail (.tail (.tail (.tail .head)))) | exact .tail (.tail (.tail (.tail (.tail (.tail .head)))))) (by first | assumption | exact Cs.take rfl) (RVs.tmp rfl RVs.nil)) rfl ?_)
  · exact ⟨by simp, hZ8.then H.fr⟩
  · exfalso
    simp_all
end Go.Proofs.Ythidohdnaeboaaa
