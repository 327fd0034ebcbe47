/- Walks of the law of all orders: a pair; begins, meant. -/
import Derived.Test.YthidohdnaeboaaaL1
import Derived.Test.YthidohdnaeboaaaOA
import Derived.Test.YthidohdnaeboaaaR5
namespace Go.Proofs.Ythidohdnaeboaaa
open Go
set_option maxRecDepth 20000
set_option maxHeartbeats 2000000
attribute [local irreducible] Run Ops Fn Draw Draw2 PureOp StepZ

/-- Where a pair's orders stand, and what they hold. -/
structure PQ where
  o : Nat
  c : Nat
  d : Nat
  r : Nat
  last : Int
  l : List Tk
/-- A row of tickets stands where it is said to; or there is none. -/
def NF (w : World) (o c : Nat) : Prop := c = o ∨ ∃ cs, w.heap[c]? = some (row cs 56)
/-- The pair at x. -/
structure Pr (w : World) (x : Nat) (n : Int) (q : PQ) : Prop where
  x : w.heap[x]? = some (row [.pointer (some ⟨q.o, 0, none⟩), .pointer (some ⟨q.d, 0, none⟩)] 68)
  p : Ord w q.o q.c n q.last q.l
  d : ROrd w q.d q.r n q.last q.l
  np : NF w q.o q.c
  nd : NF w q.d q.r
  ne : q.c ≠ q.r
  L : LInv n q.last q.l
/-- Two pairs' blocks. -/
structure Apart (q q' : PQ) : Prop where
  o : q.o ≠ q'.o
  d : q.d ≠ q'.d
  c : q.c ≠ q'.c
  cr : q.c ≠ q'.r
  rc : q.r ≠ q'.c
/-- What a call makes of a pair's blocks. -/
structure Step (z : World) (q q' : PQ) : Prop where
  o : q'.o = q.o
  d : q'.d = q.d
  c : q'.c = q.c ∨ q'.c = q.o ∨ z.heap.size ≤ q'.c
  r : q'.r = q.r ∨ q'.r = q.d ∨ z.heap.size ≤ q'.r
theorem Ord.at_ {w : World} {o c : Nat} {n last : Int} {l : List Tk} (h : Ord w o c n last l) : ∃ cs, w.heap[o]? = some (row cs 78) := by
  obtain ⟨v, h, _⟩ := h
  exact ⟨_, h⟩
theorem ROrd.at_ {w : World} {o c : Nat} {n last : Int} {l : List Tk} (h : ROrd w o c n last l) : ∃ cs, w.heap[o]? = some (row cs 88) := by
  obtain ⟨v, h, _⟩ := h
  exact ⟨_, h⟩
theorem Ord.norm {w : World} {o c : Nat} {n last : Int} {l : List Tk} (h : Ord w o c n last l) : ∃ c', (c' = c ∨ c' = o) ∧ Ord w o c' n last l ∧ NF w o c' := by
  have h' := h
  obtain ⟨v, ho, a, cap, cs, rfl, h1, h2, h3, h4⟩ := h
  rcases h3 with ⟨rfl, rfl⟩ | ⟨rfl, h5, h6⟩
  · exact ⟨o, .inr rfl, ⟨_, ho, none, 0, cs, rfl, h1, h2, .inl ⟨rfl, rfl⟩, h4⟩, .inl rfl⟩
  · exact ⟨c, .inl rfl, h', .inr ⟨cs, h5⟩⟩
theorem ROrd.norm {w : World} {o c : Nat} {n last : Int} {l : List Tk} (h : ROrd w o c n last l) : ∃ c', (c' = c ∨ c' = o) ∧ ROrd w o c' n last l ∧ NF w o c' := by
  have h' := h
  obtain ⟨v, ho, a, cap, cs, rfl, h1, h2, h3, h4⟩ := h
  rcases h3 with ⟨rfl, rfl⟩ | ⟨rfl, h5, h6⟩
  · exact ⟨o, .inr rfl, ⟨_, ho, none, 0, cs, rfl, h1, h2, .inl ⟨rfl, rfl⟩, h4⟩, .inl rfl⟩
  · exact ⟨c, .inl rfl, h', .inr ⟨cs, h5⟩⟩
theorem NF.keep {w w' : World} {S : List Nat} {o c : Nat} (h : NF w o c) (hf : Fr w w' S) (hc : c ∈ S → ∀ ds, w.heap[c]? ≠ some (row ds 56)) : NF w' o c := by
  rcases h with h | ⟨cs, h⟩
  · exact .inl h
  · exact .inr ⟨cs, hf.get h (fun hm => hc hm _ h)⟩
theorem NF.lt {w : World} {o c t : Nat} {cs : List Value} (h : NF w o c) (ho : w.heap[o]? = some (row cs t)) : c < w.heap.size := by
  rcases h with rfl | ⟨cs, h⟩
  · exact lt_of_at ho
  · exact lt_of_at h
theorem NF.ne {w : World} {o c t b t' : Nat} {cs ds : List Value} (h : NF w o c) (ho : w.heap[o]? = some (row cs t)) (hb : w.heap[b]? = some (row ds t')) (hob : t ≠ t') (ht : t' ≠ 56) : c ≠ b := by
  rcases h with rfl | ⟨cs, h⟩
  · exact ne_of_ty ho hb hob
  · exact ne_of_ty h hb (fun e => ht e.symm)
theorem Pr.ext {w w' : World} {x : Nat} {n : Int} {q : PQ} (h : Pr w x n q) (hf : Fr w w' []) : Pr w' x n q :=
  ⟨hf.get h.x (by simp), h.p.ext hf, h.d.ext hf, h.np.keep hf (by simp), h.nd.keep hf (by simp), h.ne, h.L⟩
/-- Another pair's call leaves a pair alone. -/
theorem Pr.other {w w' : World} {x x' : Nat} {n : Int} {q q' : PQ} (h : Pr w x n q) (h' : Pr w x' n q') (ha : Apart q q') (hf : Fr w w' [q.o, q.c, q.d]) : Pr w' x' n q' := by
  obtain ⟨_, a1⟩ := h.p.at_
  obtain ⟨_, a2⟩ := h.d.at_
  obtain ⟨_, a3⟩ := h'.p.at_
  obtain ⟨_, a4⟩ := h'.d.at_
  have e1 := h.np.ne a1 h'.x (by decide) (by decide)
  have e2 := h.np.ne a1 a4 (by decide) (by decide)
  have e3 : q.c ≠ q'.o := by
    rcases h.np with e | ⟨cs, hc⟩
    · rw [e]; exact ha.o
    · exact ne_of_ty hc a3 (by decide)
  have hc' : q'.c ∈ [q.o, q.c, q.d] → ∀ ds, w.heap[q'.c]? ≠ some (row ds 56) := by
    intro hm ds hd
    simp only [List.mem_cons, List.not_mem_nil, or_false] at hm
    rcases hm with e | e | e
    · exact ne_of_ty hd a1 (by decide) e
    · exact ha.c e.symm
    · exact ne_of_ty hd a2 (by decide) e
  have hr' : q'.r ∈ [q.o, q.c, q.d] → ∀ ds, w.heap[q'.r]? ≠ some (row ds 56) := by
    intro hm ds hd
    simp only [List.mem_cons, List.not_mem_nil, or_false] at hm
    rcases hm with e | e | e
    · exact ne_of_ty hd a1 (by decide) e
    · exact ha.cr e.symm
    · exact ne_of_ty hd a2 (by decide) e
  have hS : ∀ b ∈ [q.o, q.c, q.d], ∀ ds, w.heap[b]? ≠ some (row ds 3) := by
    intro b hm ds hd
    simp only [List.mem_cons, List.not_mem_nil, or_false] at hm
    rcases hm with rfl | rfl | rfl
    · exact ne_of_ty hd a1 (by decide) rfl
    · exact h.np.ne a1 hd (by decide) (by decide) rfl
    · exact ne_of_ty hd a2 (by decide) rfl
  refine ⟨hf.get h'.x ?_, h'.p.keep hf ?_ hc' hS, h'.d.keep hf ?_ hr' hS, h'.np.keep hf hc', h'.nd.keep hf hr', h'.ne, h'.L⟩
  · simp only [List.mem_cons, List.not_mem_nil, or_false, not_or]
    exact ⟨ne_of_ty h'.x a1 (by decide), e1.symm, ne_of_ty h'.x a2 (by decide)⟩
  · simp only [List.mem_cons, List.not_mem_nil, or_false, not_or]
    exact ⟨ha.o.symm, e3.symm, ne_of_ty a3 a2 (by decide)⟩
  · simp only [List.mem_cons, List.not_mem_nil, or_false, not_or]
    exact ⟨ne_of_ty a4 a1 (by decide), e2.symm, ha.d.symm⟩
theorem NF.lt' {w : World} {x : Nat} {n : Int} {q : PQ} (h : Pr w x n q) : q.o < w.heap.size ∧ q.c < w.heap.size ∧ q.d < w.heap.size ∧ q.r < w.heap.size := by
  obtain ⟨_, a1⟩ := h.p.at_
  obtain ⟨_, a2⟩ := h.d.at_
  exact ⟨lt_of_at a1, h.np.lt a1, lt_of_at a2, h.nd.lt a2⟩
/-- And they stay apart. -/
theorem Apart.step {w : World} {x x' : Nat} {n : Int} {q q' q2 : PQ} (h : Pr w x n q) (h' : Pr w x' n q') (ha : Apart q q') (hs : Step w q q2) : Apart q2 q' := by
  obtain ⟨_, a1⟩ := h.p.at_
  obtain ⟨_, a2⟩ := h.d.at_
  obtain ⟨_, a3⟩ := h'.p.at_
  obtain ⟨_, a4⟩ := h'.d.at_
  obtain ⟨l1, l2, l3, l4⟩ := NF.lt' h'
  have e1 : q.o ≠ q'.c := fun e => by
    rcases h'.np with e' | ⟨cs, hc⟩
    · exact ha.o (e.trans e')
    · exact ne_of_ty a1 hc (by decide) e
  have e2 : q.o ≠ q'.r := fun e => h'.nd.ne a4 a1 (by decide) (by decide) e.symm
  have e3 : q.d ≠ q'.c := fun e => h'.np.ne a3 a2 (by decide) (by decide) e.symm
  have := ha.c
  have := ha.cr
  have := ha.rc
  refine ⟨by rw [hs.o]; exact ha.o, by rw [hs.d]; exact ha.d, ?_, ?_, ?_⟩
  · rcases hs.c with e | e | e
    · rw [e]; exact ha.c
    · rw [e]; exact e1
    · omega
  · rcases hs.c with e | e | e
    · rw [e]; exact ha.cr
    · rw [e]; exact e2
    · omega
  · rcases hs.r with e | e | e
    · rw [e]; exact ha.rc
    · rw [e]; exact e3
    · omega
theorem Apart.symm {q q' : PQ} (h : Apart q q') : Apart q' q := ⟨h.o.symm, h.d.symm, h.c.symm, h.rc.symm, h.cr.symm⟩
/-- The program's call leaves the reference's order alone. -/
theorem Pr.ref {z w1 : World} {x : Nat} {n : Int} {q : PQ} (h : Pr z x n q) (h1 : Fr z w1 [q.o, q.c]) : ROrd w1 q.d q.r n q.last q.l ∧ w1.heap[x]? = some (row [.pointer (some ⟨q.o, 0, none⟩), .pointer (some ⟨q.d, 0, none⟩)] 68) := by
  obtain ⟨_, a1⟩ := h.p.at_
  obtain ⟨_, a2⟩ := h.d.at_
  have e2 := h.np.ne a1 a2 (by decide) (by decide)
  have e3 := h.np.ne a1 h.x (by decide) (by decide)
  refine ⟨h.d.keep h1 ?_ ?_ ?_, h1.get h.x ?_⟩
  · simp only [List.mem_cons, List.not_mem_nil, or_false, not_or]
    exact ⟨ne_of_ty a2 a1 (by decide), e2.symm⟩
  · intro hm ds hd
    simp only [List.mem_cons, List.not_mem_nil, or_false] at hm
    rcases hm with e | e
    · exact ne_of_ty hd a1 (by decide) e
    · exact h.ne e.symm
  · intro b hm ds hd
    simp only [List.mem_cons, List.not_mem_nil, or_false] at hm
    rcases hm with rfl | rfl
    · exact ne_of_ty hd a1 (by decide) rfl
    · exact h.np.ne a1 hd (by decide) (by decide) rfl
  · simp only [List.mem_cons, List.not_mem_nil, or_false, not_or]
    exact ⟨ne_of_ty h.x a1 (by decide), e3.symm⟩
/-- Behind a call on both. -/
theorem Pr.after {z w1 w2 : World} {x c' r' : Nat} {n last' : Int} {l' : List Tk} {q : PQ} (h : Pr z x n q) (h1 : Fr z w1 [q.o, q.c]) (hp : Ord w1 q.o c' n last' l') (hc : c' = q.c ∨ z.heap.size ≤ c') (h2 : Fr w1 w2 [q.d]) (hd : ROrd w2 q.d r' n last' l') (hr : r' = q.r ∨ w1.heap.size ≤ r') (hL : LInv n last' l') :
    ∃ q2, Pr w2 x n q2 ∧ Step z q q2 ∧ Fr z w2 [q.o, q.c, q.d] := by
  obtain ⟨_, a1⟩ := h.p.at_
  obtain ⟨_, a2⟩ := h.d.at_
  obtain ⟨_, b1⟩ := hp.at_
  obtain ⟨hR, hx⟩ := h.ref h1
  obtain ⟨_, b2⟩ := hR.at_
  obtain ⟨l1, l2, l3, l4⟩ := NF.lt' h
  obtain ⟨c2, hc2, hp2, hn2⟩ := hp.norm
  obtain ⟨r2, hr2, hd2, hm2⟩ := hd.norm
  have hs := h1.size
  have lc2 := hn2.lt b1
  have lo := lt_of_at b1
  have f1 : q.c ≠ q.d := h.np.ne a1 a2 (by decide) (by decide)
  have f2 : q.o ≠ q.d := ne_of_ty a1 a2 (by decide)
  have f3 : q.o ≠ q.r := fun e => h.nd.ne a2 a1 (by decide) (by decide) e.symm
  have f4 := h.ne
  have gx : ∀ b ∈ [q.d], ∀ ds, w1.heap[b]? ≠ some (row ds 56) := by
    intro b hm ds hd
    simp only [List.mem_singleton] at hm
    subst hm
    exact ne_of_ty hd b2 (by decide) rfl
  refine ⟨⟨q.o, c2, q.d, r2, last', l'⟩, ⟨h2.get hx (by simpa using ne_of_ty hx b2 (by decide)), hp2.keep h2 (by simpa using f2) (fun hm => gx _ hm) ?_, hd2, hn2.keep h2 (fun hm => gx _ hm), hm2, ?_, hL⟩, ⟨rfl, rfl, ?_, ?_⟩, h1.trans h2 (by simp) (by simp)⟩
  · intro b hm ds hd
    simp only [List.mem_singleton] at hm
    subst hm
    exact ne_of_ty hd b2 (by decide) rfl
  · dsimp only
    rcases hc2 with rfl | rfl <;> rcases hr2 with rfl | rfl <;> omega
  · dsimp only
    omega
  · dsimp only
    omega

theorem begins_no (z : World) (n : Int) (h : ¬ (1 ≤ n ∧ n ≤ 64)) :
    Fn env.P 22 [.int .i64 n] z fun v w' => v = .tuple #[.pointer none, .bool true] ∧ Fr z w' [] := by
  have H := Holds.start z []
  have HF := Try.func22; refine Fn.enter Try.func22 Try.ntmps22 rfl rfl rfl ?_
  refine Run.seq ?_
  (refine Run.region ?_; intro K hK)
  refine Ops.pure H (X.assign rfl) rfl rfl rfl ?_
  refine Ops.pure H (X.assign rfl) rfl rfl rfl ?_
  (refine Ops.nil (hK _ _ ?_); clear hK K)
  refine Run.seq ?_
  (refine Run.region ?_; intro K hK)
  refine Ops.pure H (X.move rfl) rfl rfl rfl ?_
  refine Ops.eff rfl (Y.call rfl rfl (by first | assumption | decide +kernel) rfl (orderNew_no _ n h) rfl ?_)
  rintro v w1 ⟨rfl, rfl⟩
  refine Ops.pure H (X.move rfl) rfl rfl rfl ?_
  refine Ops.pure H (X.extract rfl rfl) rfl rfl rfl ?_
  refine Ops.pure H (X.extract rfl rfl) rfl rfl rfl ?_
  refine Ops.pure H (X.assign rfl) rfl rfl rfl ?_
  refine Ops.pure H (X.assign rfl) rfl rfl rfl ?_
  (refine Ops.nil (hK _ _ ?_); clear hK K)
  refine Run.seq ?_
  (refine Run.region ?_; intro K hK)
  refine Ops.pure H (X.move rfl) rfl rfl rfl ?_
  refine Ops.eff rfl (Y.call rfl rfl (by first | assumption | decide +kernel) rfl (rnew_no _ n h) rfl ?_)
  rintro v w2 ⟨rfl, rfl⟩
  refine Ops.pure H (X.move rfl) rfl rfl rfl ?_
  refine Ops.pure H (X.extract rfl rfl) rfl rfl rfl ?_
  refine Ops.pure H (X.extract rfl rfl) rfl rfl rfl ?_
  refine Ops.pure H (X.assign rfl) rfl rfl rfl ?_
  refine Ops.pure H (X.assign rfl) rfl rfl rfl ?_
  (refine Ops.nil (hK _ _ ?_); clear hK K)
  refine Run.seq ?_
  refine Run.seq ?_
  (refine Run.region ?_; intro K hK)
  refine Ops.pure H (X.move rfl) rfl rfl rfl ?_
  refine Ops.pure H (X.move rfl) rfl rfl rfl ?_
  refine Ops.pure H (X.cmp rfl rfl rfl) rfl rfl rfl ?_
  refine Ops.pure H (X.move rfl) rfl rfl rfl ?_
  refine Ops.pure H (X.move rfl) rfl rfl rfl ?_
  refine Ops.pure H (X.ptrNil rfl rfl rfl rfl rfl) rfl rfl rfl ?_
  refine Ops.pure H (X.move rfl) rfl rfl rfl ?_
  refine Ops.pure H (X.ptrNil rfl rfl rfl rfl rfl) rfl rfl rfl ?_
  refine Ops.pure H (X.boolEq rfl rfl rfl rfl rfl) rfl rfl rfl ?_
  refine Ops.pure H (X.pick_f rfl rfl) rfl rfl rfl ?_
  (refine Ops.nil (hK _ _ ?_); clear hK K)
  refine Run.cond_false rfl ?_
  refine Run.skip ?_
  refine Run.seq ?_
  refine Run.seq ?_
  (refine Run.region ?_; intro K hK)
  refine Ops.pure H (X.move rfl) rfl rfl rfl ?_
  refine Ops.pure H (X.ptrNil rfl rfl rfl rfl rfl) rfl rfl rfl ?_
  (refine Ops.nil (hK _ _ ?_); clear hK K)
  refine Run.cond_true rfl ?_
  refine Run.seq ?_
  (refine Run.region ?_; intro K hK)
  refine Ops.pure H (X.assign rfl) rfl rfl rfl ?_
  refine Ops.pure H (X.assign rfl) rfl rfl rfl ?_
  (refine Ops.nil (hK _ _ ?_); clear hK K)
  (first | refine Fn.ret1 HF rfl rfl ?_ | refine Fn.ret2 HF rfl rfl rfl ?_ | refine Fn.ret3 HF rfl rfl rfl rfl ?_ | refine Fn.ret0 HF rfl ?_ | refine Fn.fin0 HF rfl ?_ | refine Fn.retG (E := env) HF rfl H (by first | exact RVs.cellN rfl rfl rfl (by first | exact .head | exact .tail .head | exact .tail (.tail .head) | exact .tail (.tail (.tail .head)) | exact .tail (.tail (.tail (.tail .head))) | exact .tail (.tail (.tail (.tail (.tail .head)))) | exact .tail (.tail (.tail (.tail (.tail (.tail .head)))))) (by first | assumption | exact Cs.take rfl) RVs.nil | exact RVs.cellN rfl rfl rfl (by first | exact .head | exact .tail .head | exact .tail (.tail .head) | exact .tail (.tail (.tail .head)) | exact .tail (.tail (.tail (.tail .head))) | exact .tail (.tail (.tail (.tail (.tail .head)))) | exact .tail (.tail (.tail (.tail (.tail (.tail .head)))))) (by first | assumption | exact Cs.take rfl) (RVs.tmp rfl RVs.nil)) rfl ?_)
  exact ⟨rfl, H.fr⟩
theorem begins_yes (z : World) (n : Int) (h1 : 1 ≤ n) (h2 : n ≤ 64) :
    Fn env.P 22 [.int .i64 n] z fun v w' => ∃ x q, v = .tuple #[.pointer (some ⟨x, 0, none⟩), .bool true] ∧ Pr w' x n q ∧ Fr z w' [] ∧ z.heap.size ≤ x ∧ z.heap.size ≤ q.o ∧ z.heap.size ≤ q.c ∧ z.heap.size ≤ q.d := by
  have H := Holds.start z []
  have HF := Try.func22; refine Fn.enter Try.func22 Try.ntmps22 rfl rfl rfl ?_
  refine Run.seq ?_
  (refine Run.region ?_; intro K hK)
  refine Ops.pure H (X.assign rfl) rfl rfl rfl ?_
  refine Ops.pure H (X.assign rfl) rfl rfl rfl ?_
  (refine Ops.nil (hK _ _ ?_); clear hK K)
  refine Run.seq ?_
  (refine Run.region ?_; intro K hK)
  refine Ops.pure H (X.move rfl) rfl rfl rfl ?_
  refine Ops.eff rfl (Y.call rfl rfl (by first | assumption | decide +kernel) rfl (orderNew_yes _ n h1 h2) rfl ?_)
  rintro v w1 ⟨o, rfl, hO1, hf1, hoz⟩
  replace H := H.ext hf1
  refine Ops.pure H (X.move rfl) rfl rfl rfl ?_
  refine Ops.pure H (X.extract rfl rfl) rfl rfl rfl ?_
  refine Ops.pure H (X.extract rfl rfl) rfl rfl rfl ?_
  refine Ops.pure H (X.assign rfl) rfl rfl rfl ?_
  refine Ops.pure H (X.assign rfl) rfl rfl rfl ?_
  (refine Ops.nil (hK _ _ ?_); clear hK K)
  refine Run.seq ?_
  (refine Run.region ?_; intro K hK)
  refine Ops.pure H (X.move rfl) rfl rfl rfl ?_
  refine Ops.eff rfl (Y.call rfl rfl (by first | assumption | decide +kernel) rfl (rnew_yes _ n h1 h2) rfl ?_)
  rintro v w2 ⟨d, rfl, hR2, hf2, hdz⟩
  have hO2 := hO1.ext hf2
  have hz1 := H.fr.size
  replace H := H.ext hf2
  have hT := H.fr
  clear H
  have H := Holds.start w2 []
  refine Ops.pure H (X.move rfl) rfl rfl rfl ?_
  refine Ops.pure H (X.extract rfl rfl) rfl rfl rfl ?_
  refine Ops.pure H (X.extract rfl rfl) rfl rfl rfl ?_
  refine Ops.pure H (X.assign rfl) rfl rfl rfl ?_
  refine Ops.pure H (X.assign rfl) rfl rfl rfl ?_
  (refine Ops.nil (hK _ _ ?_); clear hK K)
  refine Run.seq ?_
  refine Run.seq ?_
  (refine Run.region ?_; intro K hK)
  refine Ops.pure H (X.move rfl) rfl rfl rfl ?_
  refine Ops.pure H (X.move rfl) rfl rfl rfl ?_
  refine Ops.pure H (X.cmp rfl rfl rfl) rfl rfl rfl ?_
  refine Ops.pure H (X.move rfl) rfl rfl rfl ?_
  refine Ops.pure H (X.move rfl) rfl rfl rfl ?_
  refine Ops.pure H (X.ptrNil rfl rfl rfl rfl rfl) rfl rfl rfl ?_
  refine Ops.pure H (X.move rfl) rfl rfl rfl ?_
  refine Ops.pure H (X.ptrNil rfl rfl rfl rfl rfl) rfl rfl rfl ?_
  refine Ops.pure H (X.boolEq rfl rfl rfl rfl rfl) rfl rfl rfl ?_
  refine Ops.pure H (X.pick_f rfl rfl) rfl rfl rfl ?_
  (refine Ops.nil (hK _ _ ?_); clear hK K)
  refine Run.cond_false rfl ?_
  refine Run.skip ?_
  refine Run.seq ?_
  refine Run.seq ?_
  (refine Run.region ?_; intro K hK)
  refine Ops.pure H (X.move rfl) rfl rfl rfl ?_
  refine Ops.pure H (X.ptrNil rfl rfl rfl rfl rfl) rfl rfl rfl ?_
  (refine Ops.nil (hK _ _ ?_); clear hK K)
  refine Run.cond_false rfl ?_
  refine Run.skip ?_
  refine Run.seq ?_
  (refine Run.region ?_; intro K hK)
  refine Ops.pure H (X.move rfl) rfl rfl rfl ?_
  refine Ops.pure H (X.move rfl) rfl rfl rfl ?_
  refine Ops.pure H (X.buildO rfl rfl rfl rfl rfl rfl) rfl rfl rfl ?_
  (refine Ops.eff rfl (Y.box rfl rfl rfl H ?_); intro b33 w H0 hb33; clear H; have H := H0; clear H0)
  refine Ops.pure H (X.assign rfl) rfl rfl rfl ?_
  refine Ops.pure H (X.assign rfl) rfl rfl rfl ?_
  (refine Ops.nil (hK _ _ ?_); clear hK K)
  (first | refine Fn.ret1 HF rfl rfl ?_ | refine Fn.ret2 HF rfl rfl rfl ?_ | refine Fn.ret3 HF rfl rfl rfl rfl ?_ | refine Fn.ret0 HF rfl ?_ | refine Fn.fin0 HF rfl ?_ | refine Fn.retG (E := env) HF rfl H (by first | exact RVs.cellN rfl rfl rfl (by first | exact .head | exact .tail .head | exact .tail (.tail .head) | exact .tail (.tail (.tail .head)) | exact .tail (.tail (.tail (.tail .head))) | exact .tail (.tail (.tail (.tail (.tail .head)))) | exact .tail (.tail (.tail (.tail (.tail (.tail .head)))))) (by first | assumption | exact Cs.take rfl) RVs.nil | exact RVs.cellN rfl rfl rfl (by first | exact .head | exact .tail .head | exact .tail (.tail .head) | exact .tail (.tail (.tail .head)) | exact .tail (.tail (.tail (.tail .head))) | exact .tail (.tail (.tail (.tail (.tail .head)))) | exact .tail (.tail (.tail (.tail (.tail (.tail .head)))))) (by first | assumption | exact Cs.take rfl) (RVs.tmp rfl RVs.nil)) rfl ?_)
  obtain ⟨_, a1⟩ := hO2.at_
  obtain ⟨_, a2⟩ := hR2.at_
  have hdz' := Nat.le_trans hz1 hdz
  exact ⟨_, ⟨o, o, d, d, 0, []⟩, rfl, ⟨H.pick .head, hO2.ext H.fr, hR2.ext H.fr, .inl rfl, .inl rfl, ne_of_ty a1 a2 (by decide), LInv.nil n⟩, hT.then H.fr, by have := hT.size; omega, hoz, hoz, hdz'⟩

/-- The number that an act means. -/
theorem meant_any (z : World) (x : Nat) (n : Int) (q : PQ) (a : AV) (h : Pr z x n q) (hid : 0 ≤ a.id ∧ a.id ≤ 18446744073709551615) :
    Fn env.P 35 [.pointer (some ⟨x, 0, none⟩), .agg (actC a).toArray] z fun v w' => ∃ m, v = .int .u64 m ∧ 0 ≤ m ∧ m ≤ 18446744073709551615 ∧ Fr z w' [] := by
  obtain ⟨kind, part, client, seq, id, av, xs, how⟩ := a
  obtain ⟨o, c, d, r, last, l⟩ := q
  obtain ⟨hx, hp, hd, _, _, _, hL⟩ := h
  dsimp only at hx hp hd hL hid
  simp only [actC]
  have hl := hL.len
  have hll := hL.last0
  have hlu := hL.lastU
  have hd' := hd
  obtain ⟨v, ho, ad, cap, cs, rfl, hc1, hc2, hac, hall⟩ := hd
  by_cases hl0 : l.length = 0
  · have H := ((Holds.start z []).add false ho (by simp) (by simp)).add false hx (by simpa using ne_of_ty hx ho (by decide)) (by simp)
    have HF := Try.func35; refine Fn.enter Try.func35 Try.ntmps35 rfl rfl rfl ?_
    refine Run.seq ?_
    (refine Run.region ?_; intro K hK)
    (refine Ops.eff rfl (Y.box rfl rfl rfl H ?_); intro b3 w H0 hb3; clear H; have H := H0; clear H0)
    refine Ops.pure H (X.assign rfl) rfl rfl rfl ?_
    (refine Ops.nil (hK _ _ ?_); clear hK K)
    refine Run.seq ?_
    (refine Run.region ?_; intro K hK)
    refine Ops.pure H (X.move rfl) rfl rfl rfl ?_
    refine Ops.pure H (X.nilCheck rfl) rfl rfl rfl ?_
    refine Ops.pure H (X.fieldAddr rfl rfl rfl rfl rfl rfl) rfl rfl rfl ?_
    refine Ops.pure H (X.load1 rfl rfl rfl rfl (.tail .head) rfl) rfl rfl rfl ?_
    refine Ops.eff rfl (Y.call rfl rfl (by first | assumption | decide +kernel) rfl (rready_any _ d r n last l (hd'.ext H.fr) hl) rfl ?_)
    rintro v w1 ⟨hO1, hf1⟩
    obtain ⟨ra, rcap, rfl⟩ := hO1.slice
    replace H := H.ext hf1
    cases how
    · refine Ops.pure H (X.assign rfl) rfl rfl rfl ?_
      (refine Ops.nil (hK _ _ ?_); clear hK K)
      refine Run.seq ?_
      refine Run.block ?_
      refine Run.seq ?_
      (refine Run.region ?_; intro K hK)
      refine Ops.pure H (X.fieldAddr rfl rfl rfl rfl rfl rfl) rfl rfl rfl ?_
      refine Ops.pure H (X.load1 rfl rfl rfl rfl Pick.head rfl) rfl rfl rfl ?_
      refine Ops.pure H (X.not rfl) rfl rfl rfl ?_
      refine Ops.pure H (X.move rfl) rfl rfl rfl ?_
      refine Ops.pass rfl rfl rfl ?_
      refine Ops.pass rfl rfl rfl ?_
      refine Ops.pass rfl rfl rfl ?_
      refine Ops.pass rfl rfl rfl ?_
      refine Ops.pass rfl rfl rfl ?_
      refine Ops.pass rfl rfl rfl ?_
      refine Ops.pass rfl rfl rfl ?_
      refine Ops.pass rfl rfl rfl ?_
      refine Ops.pass rfl rfl rfl ?_
      refine Ops.pure H (X.pick_t rfl rfl) rfl rfl rfl ?_
      refine Ops.pure H (X.assign rfl) rfl rfl rfl ?_
      (refine Ops.nil (hK _ _ ?_); clear hK K)
      refine Run.cond_true rfl ?_
      refine Run.seq ?_
      (refine Run.region ?_; intro K hK)
      refine Ops.pure H (X.fieldAddr rfl rfl rfl rfl rfl rfl) rfl rfl rfl ?_
      refine Ops.pure H (X.load1 rfl rfl rfl rfl Pick.head rfl) rfl rfl rfl ?_
      refine Ops.pure H (X.assign rfl) rfl rfl rfl ?_
      (refine Ops.nil (hK _ _ ?_); clear hK K)
      (first | refine Fn.ret1 HF rfl rfl ?_ | refine Fn.ret2 HF rfl rfl rfl ?_ | refine Fn.ret3 HF rfl rfl rfl rfl ?_ | refine Fn.ret0 HF rfl ?_ | refine Fn.fin0 HF rfl ?_ | refine Fn.retG (E := env) HF rfl H (by first | exact RVs.cellN rfl rfl rfl (by first | exact .head | exact .tail .head | exact .tail (.tail .head) | exact .tail (.tail (.tail .head)) | exact .tail (.tail (.tail (.tail .head))) | exact .tail (.tail (.tail (.tail (.tail .head)))) | exact .tail (.tail (.tail (.tail (.tail (.tail .head)))))) (by first | assumption | exact Cs.take rfl) RVs.nil | exact RVs.cellN rfl rfl rfl (by first | exact .head | exact .tail .head | exact .tail (.tail .head) | exact .tail (.tail (.tail .head)) | exact .tail (.tail (.tail (.tail .head))) | exact .tail (.tail (.tail (.tail (.tail .head)))) | exact .tail (.tail (.tail (.tail (.tail (.tail .head)))))) (by first | assumption | exact Cs.take rfl) (RVs.tmp rfl RVs.nil)) rfl ?_)
      exact ⟨_, rfl, hid.1, hid.2, H.fr⟩
    · refine Ops.pure H (X.assign rfl) rfl rfl rfl ?_
      (refine Ops.nil (hK _ _ ?_); clear hK K)
      refine Run.seq ?_
      refine Run.block ?_
      refine Run.seq ?_
      (refine Run.region ?_; intro K hK)
      refine Ops.pure H (X.fieldAddr rfl rfl rfl rfl rfl rfl) rfl rfl rfl ?_
      refine Ops.pure H (X.load1 rfl rfl rfl rfl Pick.head rfl) rfl rfl rfl ?_
      refine Ops.pure H (X.not rfl) rfl rfl rfl ?_
      refine Ops.pure H (X.move rfl) rfl rfl rfl ?_
      refine Ops.pure H (X.move rfl) rfl rfl rfl ?_
      refine Ops.pure H (X.nilCheck rfl) rfl rfl rfl ?_
      refine Ops.pure H (X.fieldAddr rfl rfl rfl rfl rfl rfl) rfl rfl rfl ?_
      refine Ops.pure H (X.load1 rfl rfl rfl rfl (.tail .head) rfl) rfl rfl rfl ?_
      refine Ops.pure H (X.nilCheck rfl) rfl rfl rfl ?_
      refine Ops.pure H (X.fieldAddr rfl rfl rfl rfl rfl rfl) rfl rfl rfl ?_
      refine Ops.pure H (X.load1 rfl rfl rfl rfl (.tail (.tail .head)) rfl) rfl rfl rfl ?_
      refine Ops.pure H (X.len_slice rfl rfl rfl) rfl rfl rfl ?_
      refine Ops.pure H (X.cmp rfl rfl rfl) rfl rfl rfl ?_
      refine Ops.pure H (X.pick_f rfl rfl) rfl rfl rfl ?_
      refine Ops.pure H (X.assign rfl) rfl rfl rfl ?_
      (refine Ops.nil (hK _ _ ?_); clear hK K)
      refine Run.cond_dec rfl (fun h11 => ?x0) (fun h11 => ?y0)
      case' y0 => exfalso; omega
      case' x0 =>
        refine Run.seq ?_
        (refine Run.region ?_; intro K hK)
        refine Ops.pure H (X.fieldAddr rfl rfl rfl rfl rfl rfl) rfl rfl rfl ?_
        refine Ops.pure H (X.load1 rfl rfl rfl rfl Pick.head rfl) rfl rfl rfl ?_
        refine Ops.pure H (X.assign rfl) rfl rfl rfl ?_
        (refine Ops.nil (hK _ _ ?_); clear hK K)
      (first | refine Fn.ret1 HF rfl rfl ?_ | refine Fn.ret2 HF rfl rfl rfl ?_ | refine Fn.ret3 HF rfl rfl rfl rfl ?_ | refine Fn.ret0 HF rfl ?_ | refine Fn.fin0 HF rfl ?_ | refine Fn.retG (E := env) HF rfl H (by first | exact RVs.cellN rfl rfl rfl (by first | exact .head | exact .tail .head | exact .tail (.tail .head) | exact .tail (.tail (.tail .head)) | exact .tail (.tail (.tail (.tail .head))) | exact .tail (.tail (.tail (.tail (.tail .head)))) | exact .tail (.tail (.tail (.tail (.tail (.tail .head)))))) (by first | assumption | exact Cs.take rfl) RVs.nil | exact RVs.cellN rfl rfl rfl (by first | exact .head | exact .tail .head | exact .tail (.tail .head) | exact .tail (.tail (.tail .head)) | exact .tail (.tail (.tail (.tail .head))) | exact .tail (.tail (.tail (.tail (.tail .head)))) | exact .tail (.tail (.tail (.tail (.tail (.tail .head)))))) (by first | assumption | exact Cs.take rfl) (RVs.tmp rfl RVs.nil)) rfl ?_)
      exact ⟨_, rfl, hid.1, hid.2, H.fr⟩
  · obtain ⟨rfl, hcc⟩ := tks_pos hac hc1 (Fr.refl z []) (by omega)
    have H := (((Holds.start z []).add false hcc (by simp) (by simp)).add false ho (by simpa using ne_of_ty ho hcc (by decide)) (by simp)).add false hx (by simpa using ⟨ne_of_ty hx ho (by decide), ne_of_ty hx hcc (by decide)⟩) (by simp)
    obtain ⟨R, hR⟩ : ∃ R, R = (readyTo l l.length).length := ⟨_, rfl⟩
    have hR0 : 0 < R := by
      obtain ⟨s, hs⟩ := goL_head (l := l) (by omega)
      rw [hR, ready_goL, List.length_map, hs]
      simp
    have hR1 : R ≤ 4096 := by have := readyTo_le l l.length; omega
    have hRid : ∀ j, j < R → ∃ i, i < l.length ∧ (u64s (readyTo l l.length))[j]? = some (.int .u64 (l.getD i tk0).id) := by
      intro j hj
      have hg : j < (goL l).length := by rw [hR, ready_goL, List.length_map] at hj; exact hj
      refine ⟨(goL l)[j], (goL_mem (List.getElem_mem _)).1, ?_⟩
      rw [ready_goL]
      simp [hg]
    have HF := Try.func35; refine Fn.enter Try.func35 Try.ntmps35 rfl rfl rfl ?_
    refine Run.seq ?_
    (refine Run.region ?_; intro K hK)
    (refine Ops.eff rfl (Y.box rfl rfl rfl H ?_); intro b3 w H0 hb3; clear H; have H := H0; clear H0)
    refine Ops.pure H (X.assign rfl) rfl rfl rfl ?_
    (refine Ops.nil (hK _ _ ?_); clear hK K)
    refine Run.seq ?_
    (refine Run.region ?_; intro K hK)
    refine Ops.pure H (X.move rfl) rfl rfl rfl ?_
    refine Ops.pure H (X.nilCheck rfl) rfl rfl rfl ?_
    refine Ops.pure H (X.fieldAddr rfl rfl rfl rfl rfl rfl) rfl rfl rfl ?_
    refine Ops.pure H (X.load1 rfl rfl rfl rfl (.tail .head) rfl) rfl rfl rfl ?_
    refine Ops.eff rfl (Y.call rfl rfl (by first | assumption | decide +kernel) rfl (rready_any _ d r n last l (hd'.ext H.fr) hl) rfl ?_)
    rintro v w1 ⟨hO1, hf1⟩
    rw [← hR] at hO1
    obtain ⟨rb, rcap, rcs, rfl, k1, k2, k3, k4, k5, k6⟩ := hO1.get hR0
    replace H := H.extAdd false hf1 k4 k3
    cases how
    · refine Ops.pure H (X.assign rfl) rfl rfl rfl ?_
      (refine Ops.nil (hK _ _ ?_); clear hK K)
      refine Run.seq ?_
      refine Run.block ?_
      refine Run.seq ?_
      (refine Run.region ?_; intro K hK)
      refine Ops.pure H (X.fieldAddr rfl rfl rfl rfl rfl rfl) rfl rfl rfl ?_
      refine Ops.pure H (X.load1 rfl rfl rfl rfl (.tail .head) rfl) rfl rfl rfl ?_
      refine Ops.pure H (X.not rfl) rfl rfl rfl ?_
      refine Ops.pure H (X.move rfl) rfl rfl rfl ?_
      refine Ops.pass rfl rfl rfl ?_
      refine Ops.pass rfl rfl rfl ?_
      refine Ops.pass rfl rfl rfl ?_
      refine Ops.pass rfl rfl rfl ?_
      refine Ops.pass rfl rfl rfl ?_
      refine Ops.pass rfl rfl rfl ?_
      refine Ops.pass rfl rfl rfl ?_
      refine Ops.pass rfl rfl rfl ?_
      refine Ops.pass rfl rfl rfl ?_
      refine Ops.pure H (X.pick_t rfl rfl) rfl rfl rfl ?_
      refine Ops.pure H (X.assign rfl) rfl rfl rfl ?_
      (refine Ops.nil (hK _ _ ?_); clear hK K)
      refine Run.cond_true rfl ?_
      refine Run.seq ?_
      (refine Run.region ?_; intro K hK)
      refine Ops.pure H (X.fieldAddr rfl rfl rfl rfl rfl rfl) rfl rfl rfl ?_
      refine Ops.pure H (X.load1 rfl rfl rfl rfl (.tail .head) rfl) rfl rfl rfl ?_
      refine Ops.pure H (X.assign rfl) rfl rfl rfl ?_
      (refine Ops.nil (hK _ _ ?_); clear hK K)
      (first | refine Fn.ret1 HF rfl rfl ?_ | refine Fn.ret2 HF rfl rfl rfl ?_ | refine Fn.ret3 HF rfl rfl rfl rfl ?_ | refine Fn.ret0 HF rfl ?_ | refine Fn.fin0 HF rfl ?_ | refine Fn.retG (E := env) HF rfl H (by first | exact RVs.cellN rfl rfl rfl (by first | exact .head | exact .tail .head | exact .tail (.tail .head) | exact .tail (.tail (.tail .head)) | exact .tail (.tail (.tail (.tail .head))) | exact .tail (.tail (.tail (.tail (.tail .head)))) | exact .tail (.tail (.tail (.tail (.tail (.tail .head)))))) (by first | assumption | exact Cs.take rfl) RVs.nil | exact RVs.cellN rfl rfl rfl (by first | exact .head | exact .tail .head | exact .tail (.tail .head) | exact .tail (.tail (.tail .head)) | exact .tail (.tail (.tail (.tail .head))) | exact .tail (.tail (.tail (.tail (.tail .head)))) | exact .tail (.tail (.tail (.tail (.tail (.tail .head)))))) (by first | assumption | exact Cs.take rfl) (RVs.tmp rfl RVs.nil)) rfl ?_)
      exact ⟨_, rfl, hid.1, hid.2, H.fr⟩
    have hm0 := Int.emod_nonneg id (show (R : Int) ≠ 0 by omega)
    have hm1 := Int.emod_lt_of_pos id (show 0 < (R : Int) by omega)
    obtain ⟨j, hj, hjR⟩ : ∃ j : Nat, id % (R : Int) = (j : Int) ∧ j < R := ⟨(id % (R : Int)).toNat, by omega, by omega⟩
    obtain ⟨i, hi, hji⟩ := hRid j hjR
    have hrc : rcs[0 + j * 1]? = some (.int .u64 (l.getD i tk0).id) := by rw [Nat.mul_one, k6.toGet (by omega)]; exact hji
    have hn0 := Int.emod_nonneg id (show (l.length : Int) ≠ 0 by omega)
    have hn1 := Int.emod_lt_of_pos id (show 0 < (l.length : Int) by omega)
    obtain ⟨g, hg, hgl⟩ : ∃ g : Nat, id % (l.length : Int) = (g : Int) ∧ g < l.length := ⟨(id % (l.length : Int)).toNat, by omega, by omega⟩
    obtain ⟨_, _, hgc, hgid, _⟩ := (hall g _ (some_at hgl)).get
    have hi1 := hL.id1 i hi
    have hg1 := hL.id1 g hgl
    refine Ops.pure H (X.assign rfl) rfl rfl rfl ?_
    (refine Ops.nil (hK _ _ ?_); clear hK K)
    refine Run.seq ?_
    refine Run.block ?_
    refine Run.seq ?_
    (refine Run.region ?_; intro K hK)
    refine Ops.pure H (X.fieldAddr rfl rfl rfl rfl rfl rfl) rfl rfl rfl ?_
    refine Ops.pure H (X.load1 rfl rfl rfl rfl (.tail .head) rfl) rfl rfl rfl ?_
    refine Ops.pure H (X.not rfl) rfl rfl rfl ?_
    refine Ops.pure H (X.move rfl) rfl rfl rfl ?_
    refine Ops.pure H (X.move rfl) rfl rfl rfl ?_
    refine Ops.pure H (X.nilCheck rfl) rfl rfl rfl ?_
    refine Ops.pure H (X.fieldAddr rfl rfl rfl rfl rfl rfl) rfl rfl rfl ?_
    refine Ops.pure H (X.load1 rfl rfl rfl rfl (.tail (.tail .head)) rfl) rfl rfl rfl ?_
    refine Ops.pure H (X.nilCheck rfl) rfl rfl rfl ?_
    refine Ops.pure H (X.fieldAddr rfl rfl rfl rfl rfl rfl) rfl rfl rfl ?_
    refine Ops.pure H (X.load1 rfl rfl rfl rfl (.tail (.tail (.tail .head))) rfl) rfl rfl rfl ?_
    refine Ops.pure H (X.len_slice rfl rfl rfl) rfl rfl rfl ?_
    refine Ops.pure H (X.cmp rfl rfl rfl) rfl rfl rfl ?_
    refine Ops.pure H (X.pick_f rfl rfl) rfl rfl rfl ?_
    refine Ops.pure H (X.assign rfl) rfl rfl rfl ?_
    (refine Ops.nil (hK _ _ ?_); clear hK K)
    refine Run.cond_dec rfl (fun h11 => ?x1) (fun h11 => ?y1)
    case' y1 =>
      refine Run.seq ?_
      (refine Run.region ?_; intro K hK)
      refine Ops.pure H (X.fieldAddr rfl rfl rfl rfl rfl rfl) rfl rfl rfl ?_
      refine Ops.pure H (X.load1 rfl rfl rfl rfl (.tail .head) rfl) rfl rfl rfl ?_
      refine Ops.pure H (X.cmp rfl rfl rfl) rfl rfl rfl ?_
      refine Ops.pure H (X.assign rfl) rfl rfl rfl ?_
      (refine Ops.nil (hK _ _ ?_); clear hK K)
      refine Run.cond_dec rfl (fun h28 => ?x2) (fun h28 => ?y2)
      case' y2 =>
        refine Run.seq ?_
        (refine Run.region ?_; intro K hK)
        refine Ops.pure H (X.fieldAddr rfl rfl rfl rfl rfl rfl) rfl rfl rfl ?_
        refine Ops.pure H (X.load1 rfl rfl rfl rfl (.tail .head) rfl) rfl rfl rfl ?_
        refine Ops.pure H (X.cmp rfl rfl rfl) rfl rfl rfl ?_
        refine Ops.pure H (X.assign rfl) rfl rfl rfl ?_
        (refine Ops.nil (hK _ _ ?_); clear hK K)
        refine Run.cond_dec rfl (fun h41 => ?x3) (fun h41 => ?y3)
        case' y3 =>
          refine Run.skip ?_
          refine Run.inBlock ?_
          refine Run.seq ?_
          (refine Run.draw H [] [0, 1, 2, 3, 4, 5, 6, 7, 8, 9, 10, 11, 12, 13, 14, 15, 16, 17, 18, 19, 20, 21, 22] ?_; clear H; intro K hK w H)
          refine Draw.take0 rfl (X.move rfl) rfl rfl rfl (by decide +kernel) ?_
          refine Draw.take0 rfl (X.nilCheck rfl) rfl rfl rfl (by decide +kernel) ?_
          refine Draw.take0 rfl (X.fieldAddr rfl rfl rfl rfl rfl rfl) rfl rfl rfl (by decide +kernel) ?_
          refine Draw.take rfl (X.load1 rfl rfl rfl rfl (.tail (.tail .head)) rfl) rfl rfl rfl (by decide +kernel) ?_
          refine Draw.take0 rfl (X.nilCheck rfl) rfl rfl rfl (by decide +kernel) ?_
          refine Draw.take0 rfl (X.fieldAddr rfl rfl rfl rfl rfl rfl) rfl rfl rfl (by decide +kernel) ?_
          refine Draw.take rfl (X.load1 rfl rfl rfl rfl (.tail (.tail (.tail .head))) rfl) rfl rfl rfl (by decide +kernel) ?_
          refine Draw.take0 rfl (X.fieldAddr rfl rfl rfl rfl rfl rfl) rfl rfl rfl (by decide +kernel) ?_
          refine Draw.take rfl (X.load1 rfl rfl rfl rfl (.tail .head) rfl) rfl rfl rfl (by decide +kernel) ?_
          refine Draw.take0 rfl (X.move rfl) rfl rfl rfl (by decide +kernel) ?_
          refine Draw.take0 rfl (X.nilCheck rfl) rfl rfl rfl (by decide +kernel) ?_
          refine Draw.take0 rfl (X.fieldAddr rfl rfl rfl rfl rfl rfl) rfl rfl rfl (by decide +kernel) ?_
          refine Draw.take rfl (X.load1 rfl rfl rfl rfl (.tail (.tail .head)) rfl) rfl rfl rfl (by decide +kernel) ?_
          refine Draw.take0 rfl (X.nilCheck rfl) rfl rfl rfl (by decide +kernel) ?_
          refine Draw.take0 rfl (X.fieldAddr rfl rfl rfl rfl rfl rfl) rfl rfl rfl (by decide +kernel) ?_
          refine Draw.take rfl (X.load1 rfl rfl rfl rfl (.tail (.tail (.tail .head))) rfl) rfl rfl rfl (by decide +kernel) ?_
          refine Draw.take0 rfl (X.len_slice rfl rfl rfl) rfl rfl rfl (by decide +kernel) ?_
          refine Draw.take0 rfl (X.conv rfl rfl rfl rfl rfl (u64_in _ (by omega))) rfl rfl rfl (by decide +kernel) ?_
          refine Draw.take0 rfl (X.remP rfl rfl (by omega)) rfl rfl rfl (by decide +kernel) ?_
        case' x3 =>
          refine Run.seq ?_
          (refine Run.draw H [] [0, 1, 2, 3, 4, 5, 6, 7, 8, 9, 10, 11] ?_; clear H; intro K hK w H)
          refine Draw.take0 rfl (X.move rfl) rfl rfl rfl (by decide +kernel) ?_
          refine Draw.take0 rfl (X.nilCheck rfl) rfl rfl rfl (by decide +kernel) ?_
          refine Draw.take0 rfl (X.fieldAddr rfl rfl rfl rfl rfl rfl) rfl rfl rfl (by decide +kernel) ?_
          refine Draw.take rfl (X.load1 rfl rfl rfl rfl (.tail (.tail .head)) rfl) rfl rfl rfl (by decide +kernel) ?_
          refine Draw.take0 rfl (X.nilCheck rfl) rfl rfl rfl (by decide +kernel) ?_
          refine Draw.take0 rfl (X.fieldAddr rfl rfl rfl rfl rfl rfl) rfl rfl rfl (by decide +kernel) ?_
          refine Draw.take rfl (X.load1 rfl rfl rfl rfl (.tail (.tail (.tail .head))) rfl) rfl rfl rfl (by decide +kernel) ?_
          refine Draw.take0 rfl (X.fieldAddr rfl rfl rfl rfl rfl rfl) rfl rfl rfl (by decide +kernel) ?_
          refine Draw.take rfl (X.load1 rfl rfl rfl rfl (.tail .head) rfl) rfl rfl rfl (by decide +kernel) ?_
          refine Draw.take0 rfl (X.remP rfl rfl (by omega)) rfl rfl rfl (by decide +kernel) ?_
          refine Draw.take0 rfl (X.arith rfl rfl rfl) rfl rfl rfl (by decide +kernel) ?_
          refine Draw.take0 rfl (X.assign rfl) rfl rfl rfl (by decide +kernel) ?_
          (refine Draw.done (by decide +kernel) (hK _ _ ?_); clear hK K)
      case' x2 =>
        refine Run.seq ?_
        (refine Run.region ?_; intro K hK)
        refine Ops.pure H (X.move rfl) rfl rfl rfl ?_
        refine Ops.pure H (X.fieldAddr rfl rfl rfl rfl rfl rfl) rfl rfl rfl ?_
        refine Ops.pure H (X.load1 rfl rfl rfl rfl (.tail .head) rfl) rfl rfl rfl ?_
        refine Ops.pure H (X.move rfl) rfl rfl rfl ?_
        refine Ops.pure H (X.len_slice rfl rfl rfl) rfl rfl rfl ?_
        refine Ops.pure H (X.conv rfl rfl rfl rfl rfl (u64_in _ (by omega))) rfl rfl rfl ?_
        refine Ops.pure H (X.remP rfl rfl (by omega)) rfl rfl rfl ?_
    case' x1 => exfalso; omega
    · rw [hj]
      refine Ops.pure H (X.indexAddr rfl rfl (by omega) rfl rfl rfl rfl) rfl rfl rfl ?_
      refine Ops.pure H (X.load1 rfl rfl rfl rfl Pick.head (by assumption)) rfl rfl rfl ?_
      refine Ops.pure H (X.assign rfl) rfl rfl rfl ?_
      (refine Ops.nil (hK _ _ ?_); clear hK K)
      (first | refine Fn.ret1 HF rfl rfl ?_ | refine Fn.ret2 HF rfl rfl rfl ?_ | refine Fn.ret3 HF rfl rfl rfl rfl ?_ | refine Fn.ret0 HF rfl ?_ | refine Fn.fin0 HF rfl ?_ | refine Fn.retG (E := env) HF rfl H (by first | exact RVs.cellN rfl rfl rfl (by first | exact .head | exact .tail .head | exact .tail (.tail .head) | exact .tail (.tail (.tail .head)) | exact .tail (.tail (.tail (.tail .head))) | exact .tail (.tail (.tail (.tail (.tail .head)))) | exact .tail (.tail (.tail (.tail (.tail (.tail .head)))))) (by first | assumption | exact Cs.take rfl) RVs.nil | exact RVs.cellN rfl rfl rfl (by first | exact .head | exact .tail .head | exact .tail (.tail .head) | exact .tail (.tail (.tail .head)) | exact .tail (.tail (.tail (.tail .head))) | exact .tail (.tail (.tail (.tail (.tail .head)))) | exact .tail (.tail (.tail (.tail (.tail (.tail .head)))))) (by first | assumption | exact Cs.take rfl) (RVs.tmp rfl RVs.nil)) rfl ?_)
      exact ⟨_, rfl, by omega, by omega, H.fr⟩
    · (first | refine Fn.ret1 HF rfl rfl ?_ | refine Fn.ret2 HF rfl rfl rfl ?_ | refine Fn.ret3 HF rfl rfl rfl rfl ?_ | refine Fn.ret0 HF rfl ?_ | refine Fn.fin0 HF rfl ?_ | refine Fn.retG (E := env) HF rfl H (by first | exact RVs.cellN rfl rfl rfl (by first | exact .head | exact .tail .head | exact .tail (.tail .head) | exact .tail (.tail (.tail .head)) | exact .tail (.tail (.tail (.tail .head))) | exact .tail (.tail (.tail (.tail (.tail .head)))) | exact .tail (.tail (.tail (.tail (.tail (.tail .head)))))) (by first | assumption | exact Cs.take rfl) RVs.nil | exact RVs.cellN rfl rfl rfl (by first | exact .head | exact .tail .head | exact .tail (.tail .head) | exact .tail (.tail (.tail .head)) | exact .tail (.tail (.tail (.tail .head))) | exact .tail (.tail (.tail (.tail (.tail .head)))) | exact .tail (.tail (.tail (.tail (.tail (.tail .head)))))) (by first | assumption | exact Cs.take rfl) (RVs.tmp rfl RVs.nil)) rfl ?_)
      have hw : 0 ≤ IntKind.u64.wrap (last + id % 100) ∧ IntKind.u64.wrap (last + id % 100) ≤ 18446744073709551615 := by
        simp [IntKind.wrap, IntKind.bits, IntKind.signed]; omega
      exact ⟨_, rfl, hw.1, hw.2, H.fr⟩
    · rw [hg]
      refine Draw.take0 rfl (X.indexAddr rfl rfl (by omega) rfl rfl rfl rfl) rfl rfl rfl (by decide +kernel) ?_
      refine Draw.take0 rfl (X.fieldAddr rfl rfl rfl rfl rfl rfl) rfl rfl rfl (by decide +kernel) ?_
      refine Draw.take rfl (X.load1 rfl rfl rfl rfl (.tail (.tail (.tail (.tail .head)))) (by assumption)) rfl rfl rfl (by decide +kernel) ?_
      refine Draw.take0 rfl (X.assign rfl) rfl rfl rfl (by decide +kernel) ?_
      (refine Draw.done (by decide +kernel) (hK _ _ ?_); clear hK K)
      (first | refine Fn.ret1 HF rfl rfl ?_ | refine Fn.ret2 HF rfl rfl rfl ?_ | refine Fn.ret3 HF rfl rfl rfl rfl ?_ | refine Fn.ret0 HF rfl ?_ | refine Fn.fin0 HF rfl ?_ | refine Fn.retG (E := env) HF rfl H (by first | exact RVs.cellN rfl rfl rfl (by first | exact .head | exact .tail .head | exact .tail (.tail .head) | exact .tail (.tail (.tail .head)) | exact .tail (.tail (.tail (.tail .head))) | exact .tail (.tail (.tail (.tail (.tail .head)))) | exact .tail (.tail (.tail (.tail (.tail (.tail .head)))))) (by first | assumption | exact Cs.take rfl) RVs.nil | exact RVs.cellN rfl rfl rfl (by first | exact .head | exact .tail .head | exact .tail (.tail .head) | exact .tail (.tail (.tail .head)) | exact .tail (.tail (.tail (.tail .head))) | exact .tail (.tail (.tail (.tail (.tail .head)))) | exact .tail (.tail (.tail (.tail (.tail (.tail .head)))))) (by first | assumption | exact Cs.take rfl) (RVs.tmp rfl RVs.nil)) rfl ?_)
      exact ⟨_, rfl, by omega, by omega, H.fr⟩
end Go.Proofs.Ythidohdnaeboaaa
