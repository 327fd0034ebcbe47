/- Walks: SequenceAll. -/
import Derived.Test.YthidohdnaeboaaaL5
import Derived.Test.YthidohdnaeboaaaO11
namespace Go.Proofs.Ythidohdnaeboaaa
open Go
set_option maxRecDepth 20000
set_option maxHeartbeats 2000000
attribute [local irreducible] Run Ops Fn Draw Draw2 PureOp StepZ

/-- A block of another sort is written: a pair stays. -/
theorem Pr.keepT {w w' : World} {S : List Nat} {x : Nat} {n : Int} {q : PQ} (h : Pr w x n q) (hf : Fr w w' S) (hS : ∀ b ∈ S, ∃ cs, w.heap[b]? = some (row cs 62)) : Pr w' x n q := by
  obtain ⟨_, a1⟩ := h.p.at_
  obtain ⟨_, a2⟩ := h.d.at_
  have k : ∀ {b t : Nat} {cs : List Value}, w.heap[b]? = some (row cs t) → t ≠ 62 → b ∉ S := by
    intro b t cs hb ht hm
    obtain ⟨_, h1⟩ := hS b hm
    exact ne_of_ty hb h1 ht rfl
  have k' : ∀ {b : Nat}, b ∈ S → ∀ ds, w.heap[b]? ≠ some (row ds 56) := fun hm ds hd => k hd (by decide) hm
  have k3 : ∀ b ∈ S, ∀ ds, w.heap[b]? ≠ some (row ds 3) := fun b hm ds hd => k hd (by decide) hm
  exact ⟨hf.get h.x (k h.x (by decide)), h.p.keep hf (k a1 (by decide)) (fun hm => k' hm) k3, h.d.keep hf (k a2 (by decide)) (fun hm => k' hm) k3, h.np.keep hf (fun hm => k' hm), h.nd.keep hf (fun hm => k' hm), h.ne, h.L⟩
/-- A clone and a copy. -/
theorem Pr.clone {w1 w2 w3 : World} {x x2 o2 c2 d2 : Nat} {n : Int} {q : PQ} (h : Pr w1 x n q) (hp : Ord w2 o2 c2 n q.last q.l) (ho : w1.heap.size ≤ o2) (hc : w1.heap.size ≤ c2) (f2 : Fr w2 w3 []) (hd : ROrd w3 d2 q.r n q.last q.l) (hd2 : w2.heap.size ≤ d2) (hx : w3.heap[x2]? = some (row [.pointer (some ⟨o2, 0, none⟩), .pointer (some ⟨d2, 0, none⟩)] 68)) (hs : w1.heap.size ≤ w2.heap.size) :
    ∃ q2, Pr w3 x2 n q2 ∧ q2.o = o2 ∧ q2.d = d2 ∧ w1.heap.size ≤ q2.c ∧ (q2.r = q.r ∨ w1.heap.size ≤ q2.r) := by
  obtain ⟨c3, hc3, hp3, hn3⟩ := hp.norm
  obtain ⟨r3, hr3, hd3, hm3⟩ := hd.norm
  obtain ⟨_, a1⟩ := hp.at_
  have lc := hn3.lt a1
  have lr := (NF.lt' h).2.2.2
  refine ⟨⟨o2, c3, d2, r3, q.last, q.l⟩, ⟨hx, hp3.ext f2, hd3, hn3.keep f2 (by simp), hm3, ?_, h.L⟩, rfl, rfl, ?_, ?_⟩
  · dsimp only
    rcases hc3 with rfl | rfl <;> rcases hr3 with rfl | rfl <;> omega
  · dsimp only
    rcases hc3 with rfl | rfl <;> omega
  · dsimp only
    rcases hr3 with rfl | rfl
    · exact .inl rfl
    · exact .inr (by omega)
theorem Apart.fresh {w : World} {x x' : Nat} {n : Int} {q q2 q' : PQ} (hq : Pr w x n q) (h : Pr w x' n q') (ho : w.heap.size ≤ q2.o) (hd : w.heap.size ≤ q2.d) (hc : w.heap.size ≤ q2.c) (hr : q2.r = q.r ∨ w.heap.size ≤ q2.r) (hrc : q.r ≠ q'.c) : Apart q2 q' := by
  obtain ⟨l1, l2, l3, l4⟩ := NF.lt' h
  refine ⟨by omega, by omega, by omega, by omega, ?_⟩
  rcases hr with e | e
  · rw [e]; exact hrc
  · omega
abbrev ptrOf (e : Nat × PQ) : Value := .pointer (some ⟨e.1, 0, none⟩)
/-- The pairs that there are; the list of them. -/
structure AllInv (z w : World) (n : Int) (P : List (Nat × PQ)) (x : Nat) (q : PQ) (v : Value) : Prop where
  fr : Fr z w []
  cur : Pr w x n q
  old : ∀ e ∈ P, Pr w e.1 n e.2
  ap : ∀ e ∈ P, Apart q e.2
  o : z.heap.size ≤ q.o
  c : z.heap.size ≤ q.c
  d : z.heap.size ≤ q.d
  hx : z.heap.size ≤ x
  len : P.length ≤ 20
  own : Own w z.heap.size 62 1 v (P.length + 1) ((P ++ [(x, q)]).map ptrOf)
theorem AllInv.ext {z w w' : World} {n : Int} {P : List (Nat × PQ)} {x : Nat} {q : PQ} {v : Value} (h : AllInv z w n P x q v) (hf : Fr w w' []) : AllInv z w' n P x q v :=
  ⟨h.fr.then hf, h.cur.ext hf, fun e he => (h.old e he).ext hf, h.ap, h.o, h.c, h.d, h.hx, h.len, h.own.ext hf⟩
theorem AllInv.step {z w w' : World} {n : Int} {P : List (Nat × PQ)} {x : Nat} {q q2 : PQ} {v : Value} (h : AllInv z w n P x q v) (hq : Pr w' x n q2) (hs : Step w q q2) (hf : Fr w w' [q.o, q.c, q.d]) : AllInv z w' n P x q2 v := by
  have hz := h.fr.size
  have h1 := h.o
  have h2 := h.c
  have h3 := h.d
  obtain ⟨_, a1⟩ := h.cur.p.at_
  obtain ⟨_, a2⟩ := h.cur.d.at_
  refine ⟨h.fr.grow hf (by simp; exact ⟨h1, h2, h3⟩), hq, fun e he => h.cur.other (h.old e he) (h.ap e he) hf, fun e he => (h.ap e he).step h.cur (h.old e he) hs, by rw [hs.o]; exact h1, ?_, by rw [hs.d]; exact h3, h.hx, h.len, ?_⟩
  · rcases hs.c with e | e | e <;> omega
  · obtain ⟨b, cap, cs, rfl, g1, g2, g3, g4, g5, g6⟩ := h.own.get (by omega)
    refine .inr ⟨b, cap, cs, rfl, g1, g2, g3, hf.get g4 ?_, g5, by simpa using g6⟩
    simp only [List.mem_cons, List.not_mem_nil, or_false, not_or]
    exact ⟨ne_of_ty g4 a1 (by decide), (h.cur.np.ne a1 g4 (by decide) (by decide)).symm, ne_of_ty g4 a2 (by decide)⟩
theorem AllInv.all {z w : World} {n : Int} {P : List (Nat × PQ)} {x : Nat} {q : PQ} {v : Value} (h : AllInv z w n P x q v) : ∀ e ∈ P ++ [(x, q)], Pr w e.1 n e.2 := by
  intro e he
  rcases List.mem_append.1 he with he | he
  · exact h.old e he
  · simp at he
    subst he
    exact h.cur

theorem all_no (z : World) (n : Int) (V : Value) (hn : ¬ (1 ≤ n ∧ n ≤ 64)) :
    Fn env.P 6 [.int .i64 n, V] z fun v w' => v = .bool true ∧ Fr z w' [] := by
  have H := Holds.start z []
  have HF := Try.func6; refine Fn.enter Try.func6 Try.ntmps6 rfl rfl rfl ?_
  refine Run.seq ?_
  (refine Run.region ?_; intro K hK)
  refine Ops.pure H (X.assign rfl) rfl rfl rfl ?_
  (refine Ops.nil (hK _ _ ?_); clear hK K)
  refine Run.seq ?_
  (refine Run.region ?_; intro K hK)
  refine Ops.pure H (X.move rfl) rfl rfl rfl ?_
  refine Ops.eff rfl (Y.call rfl rfl (by first | assumption | decide +kernel) rfl (begins_no _ n hn) rfl ?_)
  rintro v w1 ⟨rfl, hf1⟩
  replace H := H.ext hf1
  refine Ops.pure H (X.move rfl) rfl rfl rfl ?_
  refine Ops.pure H (X.extract rfl rfl) rfl rfl rfl ?_
  refine Ops.pure H (X.extract rfl rfl) rfl rfl rfl ?_
  refine Ops.pure H (X.assign rfl) rfl rfl rfl ?_
  refine Ops.pure H (X.assign rfl) rfl rfl rfl ?_
  (refine Ops.nil (hK _ _ ?_); clear hK K)
  refine Run.seq ?_
  refine Run.seq ?_
  (refine Run.region ?_; intro K hK)
  refine Ops.pure H (X.move rfl) rfl rfl rfl ?_
  refine Ops.pure H (X.ptrNil rfl rfl rfl rfl rfl) rfl rfl rfl ?_
  (refine Ops.nil (hK _ _ ?_); clear hK K)
  refine Run.cond_true rfl ?_
  refine Run.seq ?_
  (refine Run.region ?_; intro K hK)
  refine Ops.pure H (X.move rfl) rfl rfl rfl ?_
  refine Ops.pure H (X.assign rfl) rfl rfl rfl ?_
  (refine Ops.nil (hK _ _ ?_); clear hK K)
  (first | refine Fn.ret1 HF rfl rfl ?_ | refine Fn.ret2 HF rfl rfl rfl ?_ | refine Fn.ret3 HF rfl rfl rfl rfl ?_ | refine Fn.ret0 HF rfl ?_ | refine Fn.fin0 HF rfl ?_ | refine Fn.retG (E := env) HF rfl H (by first | exact RVs.cellN rfl rfl rfl (by first | exact .head | exact .tail .head | exact .tail (.tail .head) | exact .tail (.tail (.tail .head)) | exact .tail (.tail (.tail (.tail .head))) | exact .tail (.tail (.tail (.tail (.tail .head)))) | exact .tail (.tail (.tail (.tail (.tail (.tail .head)))))) (by first | assumption | exact Cs.take rfl) RVs.nil | exact RVs.cellN rfl rfl rfl (by first | exact .head | exact .tail .head | exact .tail (.tail .head) | exact .tail (.tail (.tail .head)) | exact .tail (.tail (.tail (.tail .head))) | exact .tail (.tail (.tail (.tail (.tail .head)))) | exact .tail (.tail (.tail (.tail (.tail (.tail .head)))))) (by first | assumption | exact Cs.take rfl) (RVs.tmp rfl RVs.nil)) rfl ?_)
  exact ⟨rfl, H.fr⟩
theorem all_yes (z : World) (n : Int) (aa : Option Addr) (an acap ab aoff : Nat) (acs : List Value) (aT : TypeId) (afz : Nat × Nat) (A : Nat → AV) (hA : Acts z aa an ab aoff acs aT afz A) (hB : ∀ j, j < an → (A j).xs.length ≤ 1048576) (h1 : 1 ≤ n) (h2 : n ≤ 64) :
    Fn env.P 6 [.int .i64 n, .slice aa an acap] z fun v w' => v = .bool true ∧ Fr z w' [] := by
  have hanm := hA.1
  have H := Holds.start z []
  have HF := Try.func6; refine Fn.enter Try.func6 Try.ntmps6 rfl rfl rfl ?_
  refine Run.seq ?_
  (refine Run.region ?_; intro K hK)
  refine Ops.pure H (X.assign rfl) rfl rfl rfl ?_
  (refine Ops.nil (hK _ _ ?_); clear hK K)
  refine Run.seq ?_
  (refine Run.region ?_; intro K hK)
  refine Ops.pure H (X.move rfl) rfl rfl rfl ?_
  refine Ops.eff rfl (Y.call rfl rfl (by first | assumption | decide +kernel) rfl (begins_yes _ n h1 h2) rfl ?_)
  rintro v w1 ⟨x, q, rfl, hP1, hf1, hx1, ho1, hc1, hd1⟩
  have hz0 := H.fr.size
  replace H := H.ext hf1
  have hZ1 := H.fr
  clear H
  have H := Holds.start w1 []
  refine Ops.pure H (X.move rfl) rfl rfl rfl ?_
  refine Ops.pure H (X.extract rfl rfl) rfl rfl rfl ?_
  refine Ops.pure H (X.extract rfl rfl) rfl rfl rfl ?_
  refine Ops.pure H (X.assign rfl) rfl rfl rfl ?_
  refine Ops.pure H (X.assign rfl) rfl rfl rfl ?_
  (refine Ops.nil (hK _ _ ?_); clear hK K)
  refine Run.seq ?_
  refine Run.seq ?_
  (refine Run.region ?_; intro K hK)
  refine Ops.pure H (X.move rfl) rfl rfl rfl ?_
  refine Ops.pure H (X.ptrNil rfl rfl rfl rfl rfl) rfl rfl rfl ?_
  (refine Ops.nil (hK _ _ ?_); clear hK K)
  refine Run.cond_false rfl ?_
  refine Run.skip ?_
  refine Run.seq ?_
  (refine Run.region ?_; intro K hK)
  refine Ops.pure H (X.move rfl) rfl rfl rfl ?_
  (refine Ops.eff rfl (Y.buildSliceO rfl rfl rfl rfl rfl rfl rfl rfl H ?_); intro b20 w H0 hb20; clear H; have H := H0; clear H0)
  refine Ops.pure H (X.assign rfl) rfl rfl rfl ?_
  (refine Ops.nil (hK _ _ ?_); clear hK K)
  refine Run.seq ?_
  refine Run.seq ?_
  (refine Run.region ?_; intro K hK)
  refine Ops.pure H (X.assign rfl) rfl rfl rfl ?_
  (refine Ops.nil (hK _ _ ?_); clear hK K)
  refine Run.block ?_
  have hI0 : AllInv z w n [] x q (.slice (some ⟨b20, 0, none⟩) 1 1) := ⟨hZ1.then H.fr, hP1.ext H.fr, by simp, by simp, Nat.le_trans hz0 ho1, Nat.le_trans hz0 hc1, Nat.le_trans hz0 hd1, Nat.le_trans hz0 hx1, by simp, .inr ⟨b20, 1, _, rfl, by simp, by omega, Nat.le_trans hZ1.size hb20, H.pick .head, rfl, Cs.take rfl⟩⟩
  refine Run.rounds (fun (s : Nat × List (Nat × PQ) × Nat × PQ × Value) => [(1, .slice aa an acap), (5, .pointer (some ⟨s.2.2.1, 0, none⟩)), (7, s.2.2.2.2), (8, .int .i64 (s.1 : Nat))]) (fun s w' => s.1 ≤ an ∧ AllInv z w' n s.2.1 s.2.2.1 s.2.2.2.1 s.2.2.2.2) (fun s => an - s.1) (0, [], x, q, _) (by repeat (first | exact trivial | refine ⟨rfl, ?_⟩)) ⟨by omega, hI0⟩ ?_
  clear H hP1 hf1 hx1 ho1 hc1 hd1 hz0 hZ1 hI0 x q
  rintro ⟨i, P, x, q, V7⟩ w2 ⟨hi, hI⟩ IH
  dsimp only at hi hI IH ⊢
  obtain ⟨b7, cap7, cs7, rfl, g1, g2, g3, g4, g5, g6⟩ := hI.own.get (by omega)
  by_cases hlt : i < an
  · obtain ⟨hcs, hxs, hid⟩ := hA.2.2 i hlt
    obtain ⟨rfl, hab⟩ := hA.2.1 (by omega)
    have hab2 := hI.fr.get hab (by simp)
    have habl := lt_of_at hab
    have c0 : acs[aoff + i * 7 + 0]? = some (.int .i64 (A i).kind) := hcs.get 0 _ rfl
    have hx2 := hI.cur.x
    have hxz := hI.hx
    have H := ((Holds.start w2 []).add false hab2 (by simp) (by simp)).add false hx2 (by simp; omega) (by simp)
    refine Run.seq ?_
    refine Run.seq ?_
    (refine Run.region ?_; intro K hK)
    refine Ops.pure H (X.move rfl) rfl rfl rfl ?_
    refine Ops.pure H (X.move rfl) rfl rfl rfl ?_
    refine Ops.pure H (X.len_slice rfl rfl rfl) rfl rfl rfl ?_
    refine Ops.pure H (X.cmp rfl rfl rfl) rfl rfl rfl ?_
    (refine Ops.nil (hK _ _ ?_); clear hK K)
    refine Run.cond_dec rfl (fun h24 => ?x0) (fun h24 => ?y0)
    case' y0 => exfalso; omega
    case' x0 =>
      refine Run.skip ?_
    refine Run.seq ?_
    refine Run.block ?_
    refine Run.seq ?_
    refine Run.meet (fun (s : List (Nat × PQ) × Nat × PQ × Value) => [(1, .slice (some ⟨ab, aoff, none⟩) an acap), (5, .pointer (some ⟨s.2.1, 0, none⟩)), (7, s.2.2.2), (8, .int .i64 (i : Nat))]) (fun s w' => AllInv z w' n s.1 s.2.1 s.2.2.1 s.2.2.2) ?_ ?_
    · clear hI hx2 hxz g1 g2 g3 g4 g5 g6 H hab2
      rintro ⟨P, x, q, V7⟩ w3 hI
      dsimp only at hI ⊢
      have H := (Holds.start w3 []).add false (hI.fr.get hab (by simp)) (by simp) (by simp)
      refine Run.seq ?_
      (refine Run.region ?_; intro K hK)
      refine Ops.pure H (X.move rfl) rfl rfl rfl ?_
      refine Ops.pure H (X.move rfl) rfl rfl rfl ?_
      refine Ops.pure H (X.move rfl) rfl rfl rfl ?_
      refine Ops.pure H (X.indexAddr rfl rfl (by omega) rfl rfl rfl rfl) rfl rfl rfl ?_
      refine Ops.pure H (X.loadN rfl rfl rfl Pick.head (by assumption)) rfl rfl rfl ?_
      refine Ops.eff rfl (Y.call rfl rfl (by first | assumption | decide +kernel) rfl (does_any _ x n q (A i) (hI.cur.ext H.fr) h2 hid (hxs.ext (hI.fr.then H.fr)) (hB i hlt) (fun hp b off m cap e => by have := hxs.lt hp e; have := hI.o; have := hI.c; have := hI.d; omega)) rfl ?_)
      rintro v w4 ⟨rfl, q2, hq2, hs2, hf4⟩
      have hI4 := (hI.ext H.fr).step hq2 hs2 hf4
      clear H hI
      have H := Holds.start w4 []
      refine Ops.pure H (X.not rfl) rfl rfl rfl ?_
      refine Ops.pure H (X.move rfl) rfl rfl rfl ?_
      refine Ops.pure H (X.move rfl) rfl rfl rfl ?_
      refine Ops.eff rfl (Y.call rfl rfl (by first | assumption | decide +kernel) rfl (stands_any _ x n q2 (hI4.cur.ext H.fr)) rfl ?_)
      rintro v w5 ⟨rfl, hf5⟩
      replace H := H.ext hf5
      refine Ops.pure H (X.not rfl) rfl rfl rfl ?_
      refine Ops.pure H (X.pick_f rfl rfl) rfl rfl rfl ?_
      (refine Ops.nil (hK _ _ ?_); clear hK K)
      refine Run.cond_false rfl ?_
      refine Run.skip ?_
      refine Run.inBlock ?_
      (refine Run.region ?_; intro K hK)
      refine Ops.pure H (X.move rfl) rfl rfl rfl ?_
      refine Ops.pure H (X.succ rfl rfl (by omega)) rfl rfl rfl ?_
      refine Ops.pure H (X.assign rfl) rfl rfl rfl ?_
      (refine Ops.nil (hK _ _ ?_); clear hK K)
      exact (IH (i + 1, P, x, q2, V7) _ (by dsimp only; omega) ⟨by dsimp only; omega, hI4.ext H.fr⟩).weak (by repeat (first | exact trivial | refine ⟨rfl, ?_⟩))
    · intro kk go
      refine Run.seq ?_
      (refine Run.region ?_; intro K hK)
      refine Ops.pure H (X.move rfl) rfl rfl rfl ?_
      refine Ops.pure H (X.move rfl) rfl rfl rfl ?_
      refine Ops.pure H (X.indexAddr rfl rfl (by omega) rfl rfl rfl rfl) rfl rfl rfl ?_
      refine Ops.pure H (X.fieldAddr rfl rfl rfl rfl rfl rfl) rfl rfl rfl ?_
      refine Ops.pure H (X.load1 rfl rfl rfl rfl (.tail .head) (by assumption)) rfl rfl rfl ?_
      refine Ops.pure H (X.cmp rfl rfl rfl) rfl rfl rfl ?_
      (refine Ops.nil (hK _ _ ?_); clear hK K)
      refine Run.cond_dec rfl (fun h32 => ?x1) (fun h32 => ?y1)
      case' y1 =>
        refine Run.skip ?_
      case' x1 =>
        refine Run.seq ?_
        (refine Run.region ?_; intro K hK)
        refine Ops.pure H (X.move rfl) rfl rfl rfl ?_
        refine Ops.pure H (X.nilCheck rfl) rfl rfl rfl ?_
        refine Ops.pure H (X.fieldAddr rfl rfl rfl rfl rfl rfl) rfl rfl rfl ?_
        refine Ops.pure H (X.load1 rfl rfl rfl rfl Pick.head rfl) rfl rfl rfl ?_
      · refine Ops.eff rfl (Y.call rfl rfl (by first | assumption | decide +kernel) rfl (oclone_any _ q.o q.c n q.last q.l (hI.cur.p.ext H.fr) hI.cur.L.len) rfl ?_)
        rintro v w4 ⟨o2, c2, rfl, hO4, hf4, ho2, hc2⟩
        have hs2 := H.fr.size
        replace H := H.ext hf4
        refine Ops.pure H (X.assign rfl) rfl rfl rfl ?_
        (refine Ops.nil (hK _ _ ?_); clear hK K)
        refine Run.seq ?_
        refine Run.seq ?_
        (refine Run.region ?_; intro K hK)
        refine Ops.pure H (X.move rfl) rfl rfl rfl ?_
        refine Ops.pure H (X.ptrNil rfl rfl rfl rfl rfl) rfl rfl rfl ?_
        refine Ops.pure H (X.move rfl) rfl rfl rfl ?_
        refine Ops.pure H (X.move rfl) rfl rfl rfl ?_
        refine Ops.pure H (X.len_slice rfl rfl rfl) rfl rfl rfl ?_
        refine Ops.pure H (X.cmp rfl rfl rfl) rfl rfl rfl ?_
        refine Ops.pure H (X.pick_f rfl rfl) rfl rfl rfl ?_
        (refine Ops.nil (hK _ _ ?_); clear hK K)
        refine Run.cond_dec rfl (fun h44 => ?x2) (fun h44 => ?y2)
        case' y2 =>
          refine Run.skip ?_
          refine Run.seq ?_
          (refine Run.region ?_; intro K hK)
          refine Ops.pure H (X.move rfl) rfl rfl rfl ?_
          refine Ops.pure H (X.move rfl) rfl rfl rfl ?_
          refine Ops.pure H (X.nilCheck rfl) rfl rfl rfl ?_
          refine Ops.pure H (X.fieldAddr rfl rfl rfl rfl rfl rfl) rfl rfl rfl ?_
          refine Ops.pure H (X.load1 rfl rfl rfl rfl Pick.head rfl) rfl rfl rfl ?_
        case' x2 =>
          refine Run.seq ?_
          (refine Run.region ?_; intro K hK)
          refine Ops.pure H (X.move rfl) rfl rfl rfl ?_
          refine Ops.pure H (X.ptrNil rfl rfl rfl rfl rfl) rfl rfl rfl ?_
          refine Ops.pure H (X.assign rfl) rfl rfl rfl ?_
          (refine Ops.nil (hK _ _ ?_); clear hK K)
        · (first | refine Fn.ret1 HF rfl rfl ?_ | refine Fn.ret2 HF rfl rfl rfl ?_ | refine Fn.ret3 HF rfl rfl rfl rfl ?_ | refine Fn.ret0 HF rfl ?_ | refine Fn.fin0 HF rfl ?_ | refine Fn.retG (E := env) HF rfl H (by first | exact RVs.cellN rfl rfl rfl (by first | exact .head | exact .tail .head | exact .tail (.tail .head) | exact .tail (.tail (.tail .head)) | exact .tail (.tail (.tail (.tail .head))) | exact .tail (.tail (.tail (.tail (.tail .head)))) | exact .tail (.tail (.tail (.tail (.tail (.tail .head)))))) (by first | assumption | exact Cs.take rfl) RVs.nil | exact RVs.cellN rfl rfl rfl (by first | exact .head | exact .tail .head | exact .tail (.tail .head) | exact .tail (.tail (.tail .head)) | exact .tail (.tail (.tail (.tail .head))) | exact .tail (.tail (.tail (.tail (.tail .head)))) | exact .tail (.tail (.tail (.tail (.tail (.tail .head)))))) (by first | assumption | exact Cs.take rfl) (RVs.tmp rfl RVs.nil)) rfl ?_)
          exact ⟨rfl, hI.fr.then H.fr⟩
        · have hfA := H.fr
          have hlen20 : P.length + 1 ≤ 20 := by omega
          replace H := H.anew (S' := []) (G' := [⟨_, _, false⟩, ⟨_, _, false⟩]) (by repeat constructor) (by simp)
          refine Ops.eff rfl (Y.call rfl rfl (by first | assumption | decide +kernel) rfl (rcopy_any _ q.d q.r n q.last q.l ((hI.cur.d.ext hfA).ext H.fr)) rfl ?_)
          rintro v w5 ⟨d2, rfl, hR5, hf5, hd2⟩
          have hd2' := Nat.le_trans H.fr.size hd2
          replace H := H.ext hf5
          have hfB := H.fr
          replace H := H.anew (S' := []) (G' := [⟨_, _, false⟩, ⟨_, _, false⟩]) (by repeat constructor) (by simp)
          refine Ops.pure H (X.buildO rfl rfl rfl rfl rfl rfl) rfl rfl rfl ?_
          (refine Ops.eff rfl (Y.box rfl rfl rfl H ?_); intro b54 w H0 hb54; clear H; have H := H0; clear H0)
          refine Ops.pure H (X.assign rfl) rfl rfl rfl ?_
          (refine Ops.nil (hK _ _ ?_); clear hK K)
          (refine Run.region ?_; intro K hK)
          refine Ops.pure H (X.move rfl) rfl rfl rfl ?_
          refine Ops.pure H (X.move rfl) rfl rfl rfl ?_
          (refine Ops.eff rfl (Y.buildSliceO rfl rfl rfl rfl rfl rfl rfl rfl H ?_); intro b57 w H0 hb57; clear H; have H := H0; clear H0)
          have hfC := hfB.then H.fr
          have hfD := hfA.then hfC
          obtain ⟨q2, hq2, eo, ed, hqc, hqr⟩ := hI.cur.clone hO4 ho2 hc2 hfC (hR5.ext H.fr) hd2' (H.pick (.tail .head)) hfA.size
          have hx2z : z.heap.size ≤ b54 := Nat.le_trans (hI.fr.then (hfA.then hfB)).size hb54
          have g4' := hfD.get g4 (by simp)
          refine Ops.eff rfl (Y.appendB (olds := (P ++ [(x, q)]).map ptrOf) (news := [.pointer (some ⟨b54, 0, none⟩)]) (m := 1) 1 g1 g2 g4' g5 g6 rfl rfl rfl rfl rfl rfl rfl (Src.row (m := 1) H .head (Cs.take rfl)) rfl (by simp [Value.oneCell']) (by dsimp only; omega) (by omega) rfl ?_)
          intro b8 cap8 cs8 w6 hf6 hb8 k1 k2 k3 k4 k5
          have hS : ∀ b ∈ [b7], ∃ cs, w.heap[b]? = some (row cs 62) := fun b hb => by simp only [List.mem_singleton] at hb; rw [hb]; exact ⟨_, g4'⟩
          have hlenP : (P ++ [(x, q)]).length = P.length + 1 := by simp
          have hI6 : AllInv z w6 n (P ++ [(x, q)]) b54 q2 (.slice (some ⟨b8, 0, none⟩) (P.length + 1 + 1) cap8) := by
            refine ⟨(hI.fr.then hfD).grow hf6 (by simpa using g3), hq2.keepT hf6 hS, fun e he => ((hI.all e he).ext hfD).keepT hf6 hS, fun e he => ?_, by rw [eo]; exact Nat.le_trans hI.fr.size ho2, Nat.le_trans hI.fr.size hqc, by rw [ed]; exact Nat.le_trans (hI.fr.then hfA).size hd2', hx2z, by rw [hlenP]; exact hlen20, ?_⟩
            · refine Apart.fresh hI.cur (hI.all e he) (by rw [eo]; exact ho2) (by rw [ed]; exact Nat.le_trans hfA.size hd2') hqc hqr ?_
              rcases List.mem_append.1 he with he | he
              · exact (hI.ap e he).rc
              · simp at he
                subst he
                exact hI.cur.ne.symm
            · rw [hlenP]
              refine .inr ⟨b8, cap8, cs8, rfl, k1, k2, ?_, k3, k4, ?_⟩
              · rcases hb8 with e | e
                · rw [e]; exact g3
                · exact Nat.le_trans (hI.fr.then hfD).size e
              · rw [List.map_append]
                exact k5
          clear H
          have H := Holds.start w6 []
          refine Ops.pure H (X.assign rfl) rfl rfl rfl ?_
          (refine Ops.nil (hK _ _ ?_); clear hK K)
          exact go (P ++ [(x, q)], b54, q2, _) _ _ hI6 (by repeat (first | exact trivial | refine ⟨rfl, ?_⟩))
      · exact go (P, x, q, _) _ _ hI (by repeat (first | exact trivial | refine ⟨rfl, ?_⟩))
  · have H := Holds.start w2 []
    refine Run.seq ?_
    refine Run.seq ?_
    (refine Run.region ?_; intro K hK)
    refine Ops.pure H (X.move rfl) rfl rfl rfl ?_
    refine Ops.pure H (X.move rfl) rfl rfl rfl ?_
    refine Ops.pure H (X.len_slice rfl rfl rfl) rfl rfl rfl ?_
    refine Ops.pure H (X.cmp rfl rfl rfl) rfl rfl rfl ?_
    (refine Ops.nil (hK _ _ ?_); clear hK K)
    refine Run.cond_dec rfl (fun h24 => ?x3) (fun h24 => ?y3)
    case' y3 =>
      refine Run.exit rfl ?_
      refine Run.seq ?_
      refine Run.seq ?_
      (refine Run.region ?_; intro K hK)
      refine Ops.pure H (X.assign rfl) rfl rfl rfl ?_
      (refine Ops.nil (hK _ _ ?_); clear hK K)
      refine Run.block ?_
    case' x3 => exfalso; omega
    refine Run.rounds (fun (k : Nat) => [(7, .slice (some ⟨b7, 0, none⟩) (P.length + 1) cap7), (10, .int .i64 (k : Nat))]) (fun k w' => k ≤ P.length + 1 ∧ Fr w2 w' []) (fun k => P.length + 1 - k) 0 (by repeat (first | exact trivial | refine ⟨rfl, ?_⟩)) ⟨by omega, H.fr⟩ ?_
    clear H IH
    rintro k w3 ⟨hk, hf3⟩ IH
    have hlenP := hI.len
    by_cases hlk : k < P.length + 1
    · obtain ⟨e, he⟩ : ∃ e, (P ++ [(x, q)])[k]? = some e := ⟨_, List.getElem?_eq_getElem (by simp; omega)⟩
      have hP := (hI.all e (List.mem_of_getElem? he)).ext hf3
      have hc7 : cs7[0 + k * 1]? = some (.pointer (some ⟨e.1, 0, none⟩)) := g6.get (k * 1) _ (by rw [Nat.mul_one, List.getElem?_map, he]; rfl)
      have H := (Holds.start w3 []).add false (hf3.get g4 (by simp)) (by simp) (by simp)
      refine Run.seq ?_
      refine Run.seq ?_
      (refine Run.region ?_; intro K hK)
      refine Ops.pure H (X.move rfl) rfl rfl rfl ?_
      refine Ops.pure H (X.move rfl) rfl rfl rfl ?_
      refine Ops.pure H (X.len_slice rfl rfl rfl) rfl rfl rfl ?_
      refine Ops.pure H (X.cmp rfl rfl rfl) rfl rfl rfl ?_
      (refine Ops.nil (hK _ _ ?_); clear hK K)
      refine Run.cond_dec rfl (fun h74 => ?x4) (fun h74 => ?y4)
      case' y4 => exfalso; omega
      case' x4 =>
        refine Run.skip ?_
        refine Run.seq ?_
        refine Run.block ?_
        refine Run.seq ?_
        (refine Run.region ?_; intro K hK)
        refine Ops.pure H (X.move rfl) rfl rfl rfl ?_
        refine Ops.pure H (X.move rfl) rfl rfl rfl ?_
        refine Ops.pure H (X.indexAddr rfl rfl (by omega) rfl rfl rfl rfl) rfl rfl rfl ?_
        refine Ops.pure H (X.load1 rfl rfl rfl rfl Pick.head (by assumption)) rfl rfl rfl ?_
      refine Ops.eff rfl (Y.call rfl rfl (by first | assumption | decide +kernel) rfl (stands_any _ e.1 n e.2 (hP.ext H.fr)) rfl ?_)
      rintro v w5 ⟨rfl, hf5⟩
      replace H := H.ext hf5
      refine Ops.pure H (X.not rfl) rfl rfl rfl ?_
      (refine Ops.nil (hK _ _ ?_); clear hK K)
      refine Run.cond_false rfl ?_
      refine Run.skip ?_
      refine Run.inBlock ?_
      (refine Run.region ?_; intro K hK)
      refine Ops.pure H (X.move rfl) rfl rfl rfl ?_
      refine Ops.pure H (X.succ rfl rfl (by omega)) rfl rfl rfl ?_
      refine Ops.pure H (X.assign rfl) rfl rfl rfl ?_
      (refine Ops.nil (hK _ _ ?_); clear hK K)
      exact (IH (k + 1) _ (by omega) ⟨by omega, hf3.then H.fr⟩).weak (by repeat (first | exact trivial | refine ⟨rfl, ?_⟩))
    · have H := Holds.start w3 []
      refine Run.seq ?_
      refine Run.seq ?_
      (refine Run.region ?_; intro K hK)
      refine Ops.pure H (X.move rfl) rfl rfl rfl ?_
      refine Ops.pure H (X.move rfl) rfl rfl rfl ?_
      refine Ops.pure H (X.len_slice rfl rfl rfl) rfl rfl rfl ?_
      refine Ops.pure H (X.cmp rfl rfl rfl) rfl rfl rfl ?_
      (refine Ops.nil (hK _ _ ?_); clear hK K)
      refine Run.cond_dec rfl (fun h74 => ?x5) (fun h74 => ?y5)
      case' y5 =>
        refine Run.exit rfl ?_
        refine Run.seq ?_
        (refine Run.region ?_; intro K hK)
        refine Ops.pure H (X.assign rfl) rfl rfl rfl ?_
        (refine Ops.nil (hK _ _ ?_); clear hK K)
      case' x5 => exfalso; omega
      (first | refine Fn.ret1 HF rfl rfl ?_ | refine Fn.ret2 HF rfl rfl rfl ?_ | refine Fn.ret3 HF rfl rfl rfl rfl ?_ | refine Fn.ret0 HF rfl ?_ | refine Fn.fin0 HF rfl ?_ | refine Fn.retG (E := env) HF rfl H (by first | exact RVs.cellN rfl rfl rfl (by first | exact .head | exact .tail .head | exact .tail (.tail .head) | exact .tail (.tail (.tail .head)) | exact .tail (.tail (.tail (.tail .head))) | exact .tail (.tail (.tail (.tail (.tail .head)))) | exact .tail (.tail (.tail (.tail (.tail (.tail .head)))))) (by first | assumption | exact Cs.take rfl) RVs.nil | exact RVs.cellN rfl rfl rfl (by first | exact .head | exact .tail .head | exact .tail (.tail .head) | exact .tail (.tail (.tail .head)) | exact .tail (.tail (.tail (.tail .head))) | exact .tail (.tail (.tail (.tail (.tail .head)))) | exact .tail (.tail (.tail (.tail (.tail (.tail .head)))))) (by first | assumption | exact Cs.take rfl) (RVs.tmp rfl RVs.nil)) rfl ?_)
      exact ⟨rfl, (hI.fr.then hf3).then H.fr⟩
end Go.Proofs.Ythidohdnaeboaaa
