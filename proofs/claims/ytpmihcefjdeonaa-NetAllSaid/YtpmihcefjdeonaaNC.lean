/- Walks of layer 6: Down, anew, Up. -/
import Derived.Test.YtpmihcefjdeonaaNB
namespace Go.Proofs.Ytpmihcefjdeonaa
open Go
set_option maxRecDepth 20000
set_option maxHeartbeats 2000000
attribute [local irreducible] Run Ops Fn Draw Draw2 PureOp StepZ

theorem Fr.mid {a b : World} {x y : Nat} {o : Obj} (h : Fr a b [x, y]) (hx : a.heap[x]? = some o) : ∃ m, Fr a m [y] ∧ Fr m b [x] ∧ m.heap[x]? = some o ∧ ∀ c, c ≠ x → m.heap[c]? = b.heap[c]? := by
  have hlt : x < b.heap.size := Nat.lt_of_lt_of_le (lt_of_at hx) h.size
  have h1 : ∀ c, c ≠ x → (b.heap.setIfInBounds x o)[c]? = b.heap[c]? := fun c hc => by rw [Array.getElem?_setIfInBounds_ne (fun e => hc e.symm)]
  refine ⟨{ b with heap := b.heap.setIfInBounds x o }, ⟨h.os, h.tape, h.output, by simpa using h.size, fun c hc hn => ?_⟩, ⟨rfl, rfl, rfl, by simp, fun c _ hn => (h1 c (by simpa using hn)).symm⟩, by simp [hlt], h1⟩
  by_cases e : c = x
  · subst e
    dsimp only
    rw [hx]
    simp [hlt]
  · exact (h1 c e).trans (h.same c hc (by simpa using ⟨e, by simpa using hn⟩))
def Ns.downE (s : Ns) (i : Int) : Int := if s.there i then 0 else 60
def Ns.down (s : Ns) (i : Int) : Ns := if s.there i then (s.setU i.toNat false).setB i.toNat [] else s
theorem down_any (z : World) (g : PG) (i : Int) (h : PN z g) : Fn env.P 35 [.pointer (some ⟨g.nb, 0, none⟩), .int .i64 i] z (POp z g (g.abs.downE i) (g.abs.down i)) := by
  obtain ⟨cu, cx, fv, a1, a2, a3, _⟩ := h.net
  obtain ⟨xs, x1, x2, x3⟩ := h.boxr
  obtain ⟨us, u1, u2, u3⟩ := h.upr
  have H := (((Holds.start z [g.xb, g.ub]).add false a1 (by simp) (by simp)).add true x1 (by simpa using ne_of_ty x1 a1 (by decide)) (by simp)).add true u1 (by simpa using ⟨ne_of_ty u1 x1 (by decide), ne_of_ty u1 a1 (by decide)⟩) (by simp)
  have HF := Try.func35; refine Fn.enter Try.func35 Try.ntmps35 rfl rfl rfl ?_
  refine Run.seq ?_
  (refine Run.region ?_; intro K hK)
  refine Ops.pure H (X.assign rfl) rfl rfl rfl ?_
  (refine Ops.nil (hK _ _ ?_); clear hK K)
  refine Run.seq ?_
  refine Run.seq ?_
  (refine Run.region ?_; intro K hK)
  refine Ops.pure H (X.move rfl) rfl rfl rfl ?_
  refine Ops.pure H (X.move rfl) rfl rfl rfl ?_
  refine Ops.eff rfl (Y.call rfl rfl (by first | assumption | decide +kernel) rfl (there_any _ g i h) rfl ?_)
  rintro v w1 ⟨rfl, rfl⟩
  cases hi : g.abs.there i with
  | false =>
    refine Ops.pure H (X.not rfl) rfl rfl rfl ?_
    (refine Ops.nil (hK _ _ ?_); clear hK K)
    refine Run.cond_true rfl ?_
    refine Run.seq ?_
    (refine Run.region ?_; intro K hK)
    refine Ops.pure H (X.assign rfl) rfl rfl rfl ?_
    (refine Ops.nil (hK _ _ ?_); clear hK K)
    (first | refine Fn.ret1 HF rfl rfl ?_ | refine Fn.ret2 HF rfl rfl rfl ?_ | refine Fn.ret3 HF rfl rfl rfl rfl ?_ | refine Fn.ret0 HF rfl ?_ | refine Fn.fin0 HF rfl ?_ | refine Fn.retG (E := env) HF rfl H (by first | exact RVs.cellN rfl rfl rfl (by first | exact .head | exact .tail .head | exact .tail (.tail .head) | exact .tail (.tail (.tail .head)) | exact .tail (.tail (.tail (.tail .head))) | exact .tail (.tail (.tail (.tail (.tail .head)))) | exact .tail (.tail (.tail (.tail (.tail (.tail .head)))))) (by first | assumption | exact Cs.take rfl) RVs.nil | exact RVs.cellN rfl rfl rfl (by first | exact .head | exact .tail .head | exact .tail (.tail .head) | exact .tail (.tail (.tail .head)) | exact .tail (.tail (.tail (.tail .head))) | exact .tail (.tail (.tail (.tail (.tail .head)))) | exact .tail (.tail (.tail (.tail (.tail (.tail .head)))))) (by first | assumption | exact Cs.take rfl) (RVs.tmp rfl RVs.nil) | exact RVs.cellN rfl rfl rfl (by first | exact .head | exact .tail .head | exact .tail (.tail .head) | exact .tail (.tail (.tail .head)) | exact .tail (.tail (.tail (.tail .head))) | exact .tail (.tail (.tail (.tail (.tail .head)))) | exact .tail (.tail (.tail (.tail (.tail (.tail .head)))))) (by first | assumption | exact Cs.take rfl) (RVs.tmp rfl (RVs.tmp rfl RVs.nil))) rfl ?_)
    exact ⟨by simp [Ns.downE, hi], g, .rfl' h (Fr.refl _ _), by simp [Ns.down, hi]⟩
  | true =>
    obtain ⟨k, rfl, hk, _⟩ := there_iff.1 hi
    replace hk : k < g.n := hk
    refine Ops.pure H (X.not rfl) rfl rfl rfl ?_
    (refine Ops.nil (hK _ _ ?_); clear hK K)
    refine Run.cond_false rfl ?_
    refine Run.skip ?_
    refine Run.seq ?_
    (refine Run.draw H [11, 13] [0, 1, 2, 3, 4, 5, 6, 7, 8, 9, 10, 11, 12, 13] ?_; clear H; intro K hK w H)
    refine Draw.take0 rfl (X.move rfl) rfl rfl rfl (by decide +kernel) ?_
    refine Draw.take0 rfl (X.nilCheck rfl) rfl rfl rfl (by decide +kernel) ?_
    refine Draw.take0 rfl (X.fieldAddr rfl rfl rfl rfl rfl rfl) rfl rfl rfl (by decide +kernel) ?_
    refine Draw.take rfl (X.load1 rfl rfl rfl rfl (.tail (.tail .head)) rfl) rfl rfl rfl (by decide +kernel) ?_
    refine Draw.take0 rfl (X.move rfl) rfl rfl rfl (by decide +kernel) ?_
    refine Draw.take0 rfl (X.move rfl) rfl rfl rfl (by decide +kernel) ?_
    refine Draw.take0 rfl (X.nilCheck rfl) rfl rfl rfl (by decide +kernel) ?_
    refine Draw.take0 rfl (X.fieldAddr rfl rfl rfl rfl rfl rfl) rfl rfl rfl (by decide +kernel) ?_
    refine Draw.take rfl (X.load1 rfl rfl rfl rfl (.tail (.tail .head)) rfl) rfl rfl rfl (by decide +kernel) ?_
    refine Draw.take0 rfl (X.move rfl) rfl rfl rfl (by decide +kernel) ?_
    refine Draw.take0 rfl (X.indexAddr rfl rfl (by omega) rfl rfl rfl rfl) rfl rfl rfl (by decide +kernel) ?_
    (refine Draw.last rfl rfl (by decide +kernel) (Y.storeI rfl rfl rfl rfl rfl rfl H Upd.head (by omega) ?_); intro w H0; clear H; have H := H0; clear H0)
    refine Draw2.take rfl (X.indexAddr rfl rfl (by omega) rfl rfl rfl rfl) rfl rfl rfl (by decide +kernel) ?_
    (refine Draw2.eff rfl rfl (by decide +kernel) (Y.storeI rfl rfl rfl rfl rfl rfl H (.tail .head) (by omega) ?_); intro w H0; clear H; have H := H0; clear H0)
    (refine Draw2.done (by decide +kernel) (hK _ _ ?_); clear hK K)
    refine Run.seq ?_
    (refine Run.region ?_; intro K hK)
    refine Ops.pure H (X.assign rfl) rfl rfl rfl ?_
    (refine Ops.nil (hK _ _ ?_); clear hK K)
    (first | refine Fn.ret1 HF rfl rfl ?_ | refine Fn.ret2 HF rfl rfl rfl ?_ | refine Fn.ret3 HF rfl rfl rfl rfl ?_ | refine Fn.ret0 HF rfl ?_ | refine Fn.fin0 HF rfl ?_ | refine Fn.retG (E := env) HF rfl H (by first | exact RVs.cellN rfl rfl rfl (by first | exact .head | exact .tail .head | exact .tail (.tail .head) | exact .tail (.tail (.tail .head)) | exact .tail (.tail (.tail (.tail .head))) | exact .tail (.tail (.tail (.tail (.tail .head)))) | exact .tail (.tail (.tail (.tail (.tail (.tail .head)))))) (by first | assumption | exact Cs.take rfl) RVs.nil | exact RVs.cellN rfl rfl rfl (by first | exact .head | exact .tail .head | exact .tail (.tail .head) | exact .tail (.tail (.tail .head)) | exact .tail (.tail (.tail (.tail .head))) | exact .tail (.tail (.tail (.tail (.tail .head)))) | exact .tail (.tail (.tail (.tail (.tail (.tail .head)))))) (by first | assumption | exact Cs.take rfl) (RVs.tmp rfl RVs.nil) | exact RVs.cellN rfl rfl rfl (by first | exact .head | exact .tail .head | exact .tail (.tail .head) | exact .tail (.tail (.tail .head)) | exact .tail (.tail (.tail (.tail .head))) | exact .tail (.tail (.tail (.tail (.tail .head)))) | exact .tail (.tail (.tail (.tail (.tail (.tail .head)))))) (by first | assumption | exact Cs.take rfl) (RVs.tmp rfl (RVs.tmp rfl RVs.nil))) rfl ?_)
    obtain ⟨m, m1, m2, m3, m4⟩ := H.fr.mid x1
    have hux : g.ub ≠ g.xb := ne_of_ty u1 x1 (by decide)
    have st1 := h.setUp (i := k) (v := false) hk m1 u1 (by have := H.pick (b := g.ub) (by first | exact .head | exact .tail .head | exact .tail (.tail .head) | exact .tail (.tail (.tail .head)) | exact .tail (.tail (.tail (.tail .head))) | exact .tail (.tail (.tail (.tail (.tail .head)))) | exact .tail (.tail (.tail (.tail (.tail (.tail .head)))))); rw [m4 _ hux]; simpa using this)
    have st2 := st1.trans (st1.ok.setBox (i := k) (cs := xs) (v' := .slice none 0 0) (ob' := none) (ms' := []) hk m2 (fun b hb => .inl (by simpa using hb)) m3 (by have := H.pick (b := g.xb) (by first | exact .head | exact .tail .head | exact .tail (.tail .head) | exact .tail (.tail (.tail .head)) | exact .tail (.tail (.tail (.tail .head))) | exact .tail (.tail (.tail (.tail (.tail .head)))) | exact .tail (.tail (.tail (.tail (.tail (.tail .head)))))); simpa using this) Lst.nil (by simp) (by simp) (by simp))
    exact ⟨by simp [Ns.downE, hi], _, st2, by rw [abs_updb, abs_updu]; simp [Ns.down, hi]⟩
def Ns.anew (s : Ns) (a : Nat × Nat) : Ns := s.setW a ⟨(s.way a).ep + 1, [], 0, 0⟩
theorem anew_any (z : World) (g : PG) (i j : Nat) {nb : Nat} (hnb : g.nb = nb) (h : PN z g) (hi : i < g.n) (hj : j < g.n) (hb : (g.abs.way (i, j)).ep ≤ 4611686018427387903) : Fn env.P 50 [.pointer (some ⟨nb, 0, none⟩), .int .i64 (i : Nat), .int .i64 (j : Nat)] z fun _ w' => ∃ g', PStep z g w' g' ∧ g'.abs = g.abs.anew (i, j) := by
  subst hnb
  obtain ⟨cu, cx, fv, a1, a2, a3, _⟩ := h.net
  have H := ((Holds.start z []).add false a1 (by simp) (by simp))
  have HF := Try.func50; refine Fn.enter Try.func50 Try.ntmps50 rfl rfl rfl ?_
  (refine Run.draw H [17] [0, 1, 2, 3, 4, 5, 6, 7, 8, 9, 10, 11, 12, 13, 14, 15, 16, 17] ?_; clear H; intro K hK w H)
  refine Draw.take0 rfl (X.move rfl) rfl rfl rfl (by decide +kernel) ?_
  refine Draw.take0 rfl (X.nilCheck rfl) rfl rfl rfl (by decide +kernel) ?_
  refine Draw.take0 rfl (X.fieldAddr rfl rfl rfl rfl rfl rfl) rfl rfl rfl (by decide +kernel) ?_
  refine Draw.take rfl (X.load1 rfl rfl rfl rfl Pick.head rfl) rfl rfl rfl (by decide +kernel) ?_
  refine Draw.take0 rfl (X.move rfl) rfl rfl rfl (by decide +kernel) ?_
  refine Draw.take0 rfl (X.move rfl) rfl rfl rfl (by decide +kernel) ?_
  refine Draw.take0 rfl (X.buildO rfl rfl rfl rfl rfl rfl) rfl rfl rfl (by decide +kernel) ?_
  refine Draw.take0 rfl (X.move rfl) rfl rfl rfl (by decide +kernel) ?_
  refine Draw.take0 rfl (X.move rfl) rfl rfl rfl (by decide +kernel) ?_
  refine Draw.take0 rfl (X.move rfl) rfl rfl rfl (by decide +kernel) ?_
  refine Draw.eff rfl rfl (by decide +kernel) (Y.call rfl rfl (by first | assumption | decide +kernel) rfl (way_any _ g i j (h.ext H.fr) hi hj) rfl ?_)
  rintro v1 w2 ⟨c, g1, rfl, st, hab, hc, _, _, _, hfw, hmb⟩
  have hnm : g.nb ≠ g.mb := by obtain ⟨es, q, he⟩ := h.tyMap; exact ne_of_map a1 he
  have a1w := hfw.get (H.pick .head) (by simpa using hnm)
  refine ⟨fun e he => by simp at he; subst he; exact a1w, ?_⟩
  obtain ⟨sv, c1, c2⟩ := st.ok.wayr _ _ hc
  obtain ⟨es, q, f, m1, m2, m3, m4⟩ := st.ok.mp
  rw [hmb] at m1
  have hW := st.way1 hab hc
  rw [hW] at hb
  dsimp only at hb
  have st0 := st.pre h H.fr
  clear H
  have H := ((Holds.start w2 [g.mb]).add false a1w (by simp) (by simp)).add false c1 (by simp; exact fun e => by rw [e, a1w] at c1; simp at c1) (by simp)
  replace H := H.add true m1 (by simpa using ⟨(ne_of_map c1 m1).symm, fun e => hnm e.symm⟩) (by simp)
  refine Draw.more H (by simp) ?_
  refine Draw.take0 rfl (X.nilCheck rfl) rfl rfl rfl (by decide +kernel) ?_
  refine Draw.take0 rfl (X.fieldAddr rfl rfl rfl rfl rfl rfl) rfl rfl rfl (by decide +kernel) ?_
  refine Draw.take rfl (X.load1 rfl rfl rfl rfl (.tail .head) rfl) rfl rfl rfl (by decide +kernel) ?_
  refine Draw.take0 rfl (X.add_in rfl rfl (u64_in _ (by omega))) rfl rfl rfl (by decide +kernel) ?_
  refine Draw.take0 rfl (X.buildO rfl rfl rfl rfl rfl rfl) rfl rfl rfl (by decide +kernel) ?_
  (refine Draw.eff rfl rfl (by decide +kernel) (Y.box rfl rfl rfl H ?_); intro b22 w H0 hb22; clear H; have H := H0; clear H0; refine ⟨fun e he => H.at_ e (by simp only [List.mem_cons, List.not_mem_nil, or_false] at he ⊢; grind), ?_⟩)
  refine Draw.last rfl rfl (by decide +kernel) (Y.mapUpdateK (i := (i, j)) lkOk m2 H (by first | exact .head | exact .tail .head | exact .tail (.tail .head) | exact .tail (.tail (.tail .head)) | exact .tail (.tail (.tail (.tail .head))) | exact .tail (.tail (.tail (.tail (.tail .head)))) | exact .tail (.tail (.tail (.tail (.tail (.tail .head)))))) rfl rfl rfl rfl rfl ?_)
  intro es' q' w H hM' hst' _
  (refine Draw2.done (by decide +kernel) (hK _ _ ?_); clear hK K)
  (first | refine Fn.ret1 HF rfl rfl ?_ | refine Fn.ret2 HF rfl rfl rfl ?_ | refine Fn.ret3 HF rfl rfl rfl rfl ?_ | refine Fn.ret0 HF rfl ?_ | refine Fn.fin0 HF rfl ?_ | refine Fn.retG (E := env) HF rfl H (by first | exact RVs.cellN rfl rfl rfl (by first | exact .head | exact .tail .head | exact .tail (.tail .head) | exact .tail (.tail (.tail .head)) | exact .tail (.tail (.tail (.tail .head))) | exact .tail (.tail (.tail (.tail (.tail .head)))) | exact .tail (.tail (.tail (.tail (.tail (.tail .head)))))) (by first | assumption | exact Cs.take rfl) RVs.nil | exact RVs.cellN rfl rfl rfl (by first | exact .head | exact .tail .head | exact .tail (.tail .head) | exact .tail (.tail (.tail .head)) | exact .tail (.tail (.tail (.tail .head))) | exact .tail (.tail (.tail (.tail (.tail .head)))) | exact .tail (.tail (.tail (.tail (.tail (.tail .head)))))) (by first | assumption | exact Cs.take rfl) (RVs.tmp rfl RVs.nil) | exact RVs.cellN rfl rfl rfl (by first | exact .head | exact .tail .head | exact .tail (.tail .head) | exact .tail (.tail (.tail .head)) | exact .tail (.tail (.tail (.tail .head))) | exact .tail (.tail (.tail (.tail (.tail .head)))) | exact .tail (.tail (.tail (.tail (.tail (.tail .head)))))) (by first | assumption | exact Cs.take rfl) (RVs.tmp rfl (RVs.tmp rfl RVs.nil))) rfl ?_)
  have st2 := st.ok.newWay (a := (i, j)) (c' := ⟨b22, none, c.ep + 1, [], 0, 0⟩) (by rw [st.n]; exact ⟨hi, hj⟩) (by rw [hmb]; exact H.fr) hb22 rfl ⟨_, H.pick (b := b22) (by first | exact .head | exact .tail .head | exact .tail (.tail .head) | exact .tail (.tail (.tail .head)) | exact .tail (.tail (.tail (.tail .head))) | exact .tail (.tail (.tail (.tail (.tail .head)))) | exact .tail (.tail (.tail (.tail (.tail (.tail .head)))))), Lst.nil⟩ rfl (by rw [hmb]; exact H.pick (b := g.mb) (by first | exact .head | exact .tail .head | exact .tail (.tail .head) | exact .tail (.tail (.tail .head)) | exact .tail (.tail (.tail (.tail .head))) | exact .tail (.tail (.tail (.tail (.tail .head)))) | exact .tail (.tail (.tail (.tail (.tail (.tail .head))))))) hM' (hst' m3) m4 rfl
  refine ⟨_, st0.trans st2, ?_⟩
  rw [abs_updw, hab]
  unfold Ns.anew
  rw [hW]
  rfl
end Go.Proofs.Ytpmihcefjdeonaa
