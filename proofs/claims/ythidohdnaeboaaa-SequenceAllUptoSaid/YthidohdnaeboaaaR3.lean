/- Walks: the reference's Next, can; Same. -/
import Derived.Test.YthidohdnaeboaaaR2
namespace Go.Proofs.Ythidohdnaeboaaa
open Go
set_option maxRecDepth 20000
set_option maxHeartbeats 2000000
attribute [local irreducible] Run Ops Fn Draw Draw2 PureOp StepZ

theorem fidx_find {p : Nat → Bool} {n i : Nat} (h : fidx p n = i) : (List.range n).find? p = some i := by
  unfold fidx at h
  split at h
  · rename_i j hj
    rw [hj]
    congr 1
    omega
  · omega
theorem fidx_find0 {p : Nat → Bool} {n : Nat} (h : fidx p n = -1) : (List.range n).find? p = none := by
  unfold fidx at h
  split at h
  · omega
  · assumption
theorem queue_first {l : List Tk} {p : Int} {i : Nat} (h : firstL l p = i) : 0 < (queueTo l p l.length).length ∧ (u64s (queueTo l p l.length))[0]? = some (.int .u64 (l.getD i tk0).id) := by
  have h1 := fidx_find h
  have h2 : ((List.range l.length).filter (fun i => decide (p ∈ (l.getD i tk0).parts))).head? = some i := by rw [List.head?_filter]; exact h1
  unfold queueTo selTo
  generalize (List.range l.length).filter (fun i => decide (p ∈ (l.getD i tk0).parts)) = f at h2
  cases f with
  | nil => simp at h2
  | cons x r => simp at h2; subst h2; simp
theorem queue_none {l : List Tk} {p : Int} (h : firstL l p = -1) : queueTo l p l.length = [] := by
  have h1 := fidx_find0 h
  have h2 : ((List.range l.length).filter (fun i => decide (p ∈ (l.getD i tk0).parts))).head? = none := by rw [List.head?_filter]; exact h1
  unfold queueTo selTo
  generalize (List.range l.length).filter (fun i => decide (p ∈ (l.getD i tk0).parts)) = f at h2
  cases f with
  | nil => rfl
  | cons x r => simp at h2
theorem rnext_no (z : World) (d c : Nat) (n last p : Int) (l : List Tk) (h : ROrd z d c n last l) (hp : ¬ (0 ≤ p ∧ p < n)) :
    Fn env.P 60 [.pointer (some ⟨d, 0, none⟩), .int .i64 p] z fun v w' => v = .tuple #[.int .u64 0, .bool false, .int .i64 1] ∧ Fr z w' [] := by
  have H := Holds.start z []
  have HF := Try.func60; refine Fn.enter Try.func60 Try.ntmps60 rfl rfl rfl ?_
  refine Run.seq ?_
  (refine Run.region ?_; intro K hK)
  refine Ops.pure H (X.assign rfl) rfl rfl rfl ?_
  refine Ops.pure H (X.assign rfl) rfl rfl rfl ?_
  refine Ops.pure H (X.assign rfl) rfl rfl rfl ?_
  (refine Ops.nil (hK _ _ ?_); clear hK K)
  refine Run.seq ?_
  (refine Run.region ?_; intro K hK)
  refine Ops.pure H (X.move rfl) rfl rfl rfl ?_
  refine Ops.pure H (X.move rfl) rfl rfl rfl ?_
  refine Ops.eff rfl (Y.call rfl rfl (by first | assumption | decide +kernel) rfl (rqueue_no _ d c n last p l h hp) rfl ?_)
  rintro v w2 ⟨rfl, rfl⟩
  refine Ops.pure H (X.move rfl) rfl rfl rfl ?_
  refine Ops.pure H (X.extract rfl rfl) rfl rfl rfl ?_
  refine Ops.pure H (X.extract rfl rfl) rfl rfl rfl ?_
  refine Ops.pure H (X.assign rfl) rfl rfl rfl ?_
  refine Ops.pure H (X.assign rfl) rfl rfl rfl ?_
  (refine Ops.nil (hK _ _ ?_); clear hK K)
  refine Run.seq ?_
  refine Run.seq ?_
  (refine Run.region ?_; intro K hK)
  refine Ops.pure H (X.move rfl) rfl rfl rfl ?_
  refine Ops.pure H (X.cmp rfl rfl rfl) rfl rfl rfl ?_
  refine Ops.pure H (X.move rfl) rfl rfl rfl ?_
  refine Ops.pass rfl rfl rfl ?_
  refine Ops.pass rfl rfl rfl ?_
  refine Ops.pass rfl rfl rfl ?_
  refine Ops.pure H (X.pick_t rfl rfl) rfl rfl rfl ?_
  (refine Ops.nil (hK _ _ ?_); clear hK K)
  refine Run.cond_true rfl ?_
  refine Run.seq ?_
  (refine Run.region ?_; intro K hK)
  refine Ops.pure H (X.move rfl) rfl rfl rfl ?_
  refine Ops.pure H (X.assign rfl) rfl rfl rfl ?_
  refine Ops.pure H (X.assign rfl) rfl rfl rfl ?_
  refine Ops.pure H (X.assign rfl) rfl rfl rfl ?_
  (refine Ops.nil (hK _ _ ?_); clear hK K)
  (first | refine Fn.ret1 HF rfl rfl ?_ | refine Fn.ret2 HF rfl rfl rfl ?_ | refine Fn.ret3 HF rfl rfl rfl rfl ?_ | refine Fn.ret0 HF rfl ?_ | refine Fn.fin0 HF rfl ?_ | refine Fn.retG (E := env) HF rfl H (by first | exact RVs.cellN rfl rfl rfl (by first | exact .head | exact .tail .head | exact .tail (.tail .head) | exact .tail (.tail (.tail .head)) | exact .tail (.tail (.tail (.tail .head))) | exact .tail (.tail (.tail (.tail (.tail .head)))) | exact .tail (.tail (.tail (.tail (.tail (.tail .head)))))) (by first | assumption | exact Cs.take rfl) RVs.nil | exact RVs.cellN rfl rfl rfl (by first | exact .head | exact .tail .head | exact .tail (.tail .head) | exact .tail (.tail (.tail .head)) | exact .tail (.tail (.tail (.tail .head))) | exact .tail (.tail (.tail (.tail (.tail .head)))) | exact .tail (.tail (.tail (.tail (.tail (.tail .head)))))) (by first | assumption | exact Cs.take rfl) (RVs.tmp rfl RVs.nil)) rfl ?_)
  exact ⟨rfl, H.fr⟩
theorem rnext_yes (z : World) (d c : Nat) (n last p : Int) (l : List Tk) (h : ROrd z d c n last l) (hp : 0 ≤ p ∧ p < n) (hL : LInv n last l) :
    Fn env.P 60 [.pointer (some ⟨d, 0, none⟩), .int .i64 p] z fun v w' => Fr z w' [] ∧ ((firstL l p = -1 ∧ v = .tuple #[.int .u64 0, .bool false, .int .i64 0]) ∨ ∃ i, i < l.length ∧ firstL l p = i ∧ v = .tuple #[.int .u64 (l.getD i tk0).id, .bool (mayL l i), .int .i64 0]) := by
  have H := Holds.start z []
  have HF := Try.func60; refine Fn.enter Try.func60 Try.ntmps60 rfl rfl rfl ?_
  refine Run.seq ?_
  (refine Run.region ?_; intro K hK)
  refine Ops.pure H (X.assign rfl) rfl rfl rfl ?_
  refine Ops.pure H (X.assign rfl) rfl rfl rfl ?_
  refine Ops.pure H (X.assign rfl) rfl rfl rfl ?_
  (refine Ops.nil (hK _ _ ?_); clear hK K)
  refine Run.seq ?_
  (refine Run.region ?_; intro K hK)
  refine Ops.pure H (X.move rfl) rfl rfl rfl ?_
  refine Ops.pure H (X.move rfl) rfl rfl rfl ?_
  refine Ops.eff rfl (Y.call rfl rfl (by first | assumption | decide +kernel) rfl (rqueue_yes _ d c n last p l h hp hL.len) rfl ?_)
  rintro v w2 ⟨u, rfl, hO, hf⟩
  rcases fidx_cases (fun i => decide (p ∈ (l.getD i tk0).parts)) l.length with ⟨i, hi, _, _, he⟩ | ⟨_, he⟩
  · have he' : firstL l p = i := he
    obtain ⟨hq1, hq2⟩ := queue_first he'
    obtain ⟨qb, qcap, qcs, rfl, e1, e2, e3, e4, e5, e6⟩ := hO.get hq1
    have hc : qcs[0 + 0 * 1]? = some (.int .u64 (l.getD i tk0).id) := by rw [e6.toGet (by omega)]; exact hq2
    clear H
    have H := (Holds.start w2 []).add false e4 (by simp) (by simp)
    refine Ops.pure H (X.move rfl) rfl rfl rfl ?_
    refine Ops.pure H (X.extract rfl rfl) rfl rfl rfl ?_
    refine Ops.pure H (X.extract rfl rfl) rfl rfl rfl ?_
    refine Ops.pure H (X.assign rfl) rfl rfl rfl ?_
    refine Ops.pure H (X.assign rfl) rfl rfl rfl ?_
    (refine Ops.nil (hK _ _ ?_); clear hK K)
    refine Run.seq ?_
    refine Run.seq ?_
    (refine Run.region ?_; intro K hK)
    refine Ops.pure H (X.move rfl) rfl rfl rfl ?_
    refine Ops.pure H (X.cmp rfl rfl rfl) rfl rfl rfl ?_
    refine Ops.pure H (X.move rfl) rfl rfl rfl ?_
    refine Ops.pure H (X.move rfl) rfl rfl rfl ?_
    refine Ops.pure H (X.len_slice rfl rfl rfl) rfl rfl rfl ?_
    refine Ops.pure H (X.cmp rfl rfl rfl) rfl rfl rfl ?_
    refine Ops.pure H (X.pick_f rfl rfl) rfl rfl rfl ?_
    (refine Ops.nil (hK _ _ ?_); clear hK K)
    refine Run.cond_dec rfl (fun h21 => ?x0) (fun h21 => ?y0)
    case' y0 =>
      refine Run.skip ?_
      refine Run.seq ?_
      (refine Run.draw H [] [0, 1, 2, 3, 4, 5, 6, 7, 8, 9, 10, 11, 12] ?_; clear H; intro K hK w H)
      refine Draw.take0 rfl (X.move rfl) rfl rfl rfl (by decide +kernel) ?_
      refine Draw.take0 rfl (X.indexAddr rfl rfl (by omega) rfl rfl rfl rfl) rfl rfl rfl (by decide +kernel) ?_
      refine Draw.take rfl (X.load1 rfl rfl rfl rfl Pick.head (by assumption)) rfl rfl rfl (by decide +kernel) ?_
      refine Draw.take0 rfl (X.move rfl) rfl rfl rfl (by decide +kernel) ?_
      refine Draw.take0 rfl (X.move rfl) rfl rfl rfl (by decide +kernel) ?_
      refine Draw.take0 rfl (X.move rfl) rfl rfl rfl (by decide +kernel) ?_
      refine Draw.take0 rfl (X.indexAddr rfl rfl (by omega) rfl rfl rfl rfl) rfl rfl rfl (by decide +kernel) ?_
      refine Draw.take rfl (X.load1 rfl rfl rfl rfl Pick.head (by assumption)) rfl rfl rfl (by decide +kernel) ?_
    case' x0 => exfalso; omega
    refine Draw.eff rfl rfl (by decide +kernel) (Y.call rfl rfl (by first | assumption | decide +kernel) rfl (rfind_any _ d c n last l (l.getD i tk0).id (h.ext (hf.then H.fr)) hL.len) rfl ?_)
    rintro v w3 ⟨rfl, hf3⟩
    replace H := H.ext hf3
    refine ⟨H.at_, ?_⟩
    rw [hL.find hi]
    skip
    refine Draw.eff rfl rfl (by decide +kernel) (Y.call rfl rfl (by first | assumption | decide +kernel) rfl (rmay_any _ d c n last l i (h.ext (hf.then H.fr)) hi hL.len) rfl ?_)
    rintro v w4 ⟨rfl, hf4⟩
    replace H := H.ext hf4
    refine ⟨H.at_, ?_⟩
    refine Draw.take0 rfl (X.assign rfl) rfl rfl rfl (by decide +kernel) ?_
    refine Draw.take0 rfl (X.assign rfl) rfl rfl rfl (by decide +kernel) ?_
    refine Draw.take0 rfl (X.assign rfl) rfl rfl rfl (by decide +kernel) ?_
    (refine Draw.done (by decide +kernel) (hK _ _ ?_); clear hK K)
    (first | refine Fn.ret1 HF rfl rfl ?_ | refine Fn.ret2 HF rfl rfl rfl ?_ | refine Fn.ret3 HF rfl rfl rfl rfl ?_ | refine Fn.ret0 HF rfl ?_ | refine Fn.fin0 HF rfl ?_ | refine Fn.retG (E := env) HF rfl H (by first | exact RVs.cellN rfl rfl rfl (by first | exact .head | exact .tail .head | exact .tail (.tail .head) | exact .tail (.tail (.tail .head)) | exact .tail (.tail (.tail (.tail .head))) | exact .tail (.tail (.tail (.tail (.tail .head)))) | exact .tail (.tail (.tail (.tail (.tail (.tail .head)))))) (by first | assumption | exact Cs.take rfl) RVs.nil | exact RVs.cellN rfl rfl rfl (by first | exact .head | exact .tail .head | exact .tail (.tail .head) | exact .tail (.tail (.tail .head)) | exact .tail (.tail (.tail (.tail .head))) | exact .tail (.tail (.tail (.tail (.tail .head)))) | exact .tail (.tail (.tail (.tail (.tail (.tail .head)))))) (by first | assumption | exact Cs.take rfl) (RVs.tmp rfl RVs.nil)) rfl ?_)
    exact ⟨hf.then H.fr, .inr ⟨i, hi, he', rfl⟩⟩
  · have he' : firstL l p = -1 := he
    have hq := queue_none he'
    rw [hq] at hO
    obtain ⟨a, cap, rfl⟩ := hO.slice
    clear H
    have H := Holds.start w2 []
    refine Ops.pure H (X.move rfl) rfl rfl rfl ?_
    refine Ops.pure H (X.extract rfl rfl) rfl rfl rfl ?_
    refine Ops.pure H (X.extract rfl rfl) rfl rfl rfl ?_
    refine Ops.pure H (X.assign rfl) rfl rfl rfl ?_
    refine Ops.pure H (X.assign rfl) rfl rfl rfl ?_
    (refine Ops.nil (hK _ _ ?_); clear hK K)
    refine Run.seq ?_
    refine Run.seq ?_
    (refine Run.region ?_; intro K hK)
    refine Ops.pure H (X.move rfl) rfl rfl rfl ?_
    refine Ops.pure H (X.cmp rfl rfl rfl) rfl rfl rfl ?_
    refine Ops.pure H (X.move rfl) rfl rfl rfl ?_
    refine Ops.pure H (X.move rfl) rfl rfl rfl ?_
    refine Ops.pure H (X.len_slice rfl rfl rfl) rfl rfl rfl ?_
    refine Ops.pure H (X.cmp rfl rfl rfl) rfl rfl rfl ?_
    refine Ops.pure H (X.pick_f rfl rfl) rfl rfl rfl ?_
    (refine Ops.nil (hK _ _ ?_); clear hK K)
    refine Run.cond_true rfl ?_
    refine Run.seq ?_
    (refine Run.region ?_; intro K hK)
    refine Ops.pure H (X.move rfl) rfl rfl rfl ?_
    refine Ops.pure H (X.assign rfl) rfl rfl rfl ?_
    refine Ops.pure H (X.assign rfl) rfl rfl rfl ?_
    refine Ops.pure H (X.assign rfl) rfl rfl rfl ?_
    (refine Ops.nil (hK _ _ ?_); clear hK K)
    (first | refine Fn.ret1 HF rfl rfl ?_ | refine Fn.ret2 HF rfl rfl rfl ?_ | refine Fn.ret3 HF rfl rfl rfl rfl ?_ | refine Fn.ret0 HF rfl ?_ | refine Fn.fin0 HF rfl ?_ | refine Fn.retG (E := env) HF rfl H (by first | exact RVs.cellN rfl rfl rfl (by first | exact .head | exact .tail .head | exact .tail (.tail .head) | exact .tail (.tail (.tail .head)) | exact .tail (.tail (.tail (.tail .head))) | exact .tail (.tail (.tail (.tail (.tail .head)))) | exact .tail (.tail (.tail (.tail (.tail (.tail .head)))))) (by first | assumption | exact Cs.take rfl) RVs.nil | exact RVs.cellN rfl rfl rfl (by first | exact .head | exact .tail .head | exact .tail (.tail .head) | exact .tail (.tail (.tail .head)) | exact .tail (.tail (.tail (.tail .head))) | exact .tail (.tail (.tail (.tail (.tail .head)))) | exact .tail (.tail (.tail (.tail (.tail (.tail .head)))))) (by first | assumption | exact Cs.take rfl) (RVs.tmp rfl RVs.nil)) rfl ?_)
    exact ⟨hf.then H.fr, .inl ⟨he', rfl⟩⟩
theorem same_any (z : World) (t u : Tk) (v v' : Value) (b b' : Nat) (hv : Ints z v t.parts) (hv' : Ints z v' u.parts) (e : t.id = u.id ∧ t.client = u.client ∧ t.seq = u.seq ∧ t.parts = u.parts) :
    Fn env.P 43 [.agg (tkC t v).toArray, .agg (tkC u v').toArray] z fun r w' => r = .bool true ∧ Fr z w' [] := by
  obtain ⟨e1, e2, e3, e4⟩ := e
  rw [← e4] at hv'
  obtain ⟨a, cap, b, off, cs, T, fz, rfl, h2, h3, h4, h5⟩ := hv
  obtain ⟨a', cap', b', off', cs', T', fz', rfl, h2', h3', h4', h5'⟩ := hv'
  have H := Holds.start z []
  have HF := Try.func43; refine Fn.enter Try.func43 Try.ntmps43 rfl rfl rfl ?_
  simp only [tkC, ← e1, ← e2, ← e3]
  refine Run.seq ?_
  (refine Run.region ?_; intro K hK)
  (refine Ops.eff rfl (Y.box rfl rfl rfl H ?_); intro b2 w H0 hb2; clear H; have H := H0; clear H0)
  (refine Ops.eff rfl (Y.box rfl rfl rfl H ?_); intro b3 w H0 hb3; clear H; have H := H0; clear H0)
  refine Ops.pure H (X.assign rfl) rfl rfl rfl ?_
  (refine Ops.nil (hK _ _ ?_); clear hK K)
  refine Run.seq ?_
  refine Run.seq ?_
  (refine Run.region ?_; intro K hK)
  refine Ops.pure H (X.fieldAddr rfl rfl rfl rfl rfl rfl) rfl rfl rfl ?_
  refine Ops.pure H (X.load1 rfl rfl rfl rfl (.tail .head) rfl) rfl rfl rfl ?_
  refine Ops.pure H (X.fieldAddr rfl rfl rfl rfl rfl rfl) rfl rfl rfl ?_
  refine Ops.pure H (X.load1 rfl rfl rfl rfl Pick.head rfl) rfl rfl rfl ?_
  refine Ops.pure H (X.cmp rfl rfl rfl) rfl rfl rfl ?_
  refine Ops.pure H (X.move rfl) rfl rfl rfl ?_
  refine Ops.split_ndec rfl rfl (fun h12 => ?x1) (fun h12 => ?y1)
  case' y1 =>
    refine Ops.pure H (X.fieldAddr rfl rfl rfl rfl rfl rfl) rfl rfl rfl ?_
    refine Ops.pure H (X.load1 rfl rfl rfl rfl (.tail .head) rfl) rfl rfl rfl ?_
    refine Ops.pure H (X.fieldAddr rfl rfl rfl rfl rfl rfl) rfl rfl rfl ?_
    refine Ops.pure H (X.load1 rfl rfl rfl rfl Pick.head rfl) rfl rfl rfl ?_
    refine Ops.pure H (X.cmp rfl rfl rfl) rfl rfl rfl ?_
    refine Ops.pure H (X.pick_f rfl rfl) rfl rfl rfl ?_
    refine Ops.pure H (X.move rfl) rfl rfl rfl ?_
    refine Ops.split_ndec rfl rfl (fun h19 => ?x2) (fun h19 => ?y2)
    case' y2 =>
      refine Ops.pure H (X.fieldAddr rfl rfl rfl rfl rfl rfl) rfl rfl rfl ?_
      refine Ops.pure H (X.load1 rfl rfl rfl rfl (.tail .head) rfl) rfl rfl rfl ?_
      refine Ops.pure H (X.fieldAddr rfl rfl rfl rfl rfl rfl) rfl rfl rfl ?_
      refine Ops.pure H (X.load1 rfl rfl rfl rfl Pick.head rfl) rfl rfl rfl ?_
      refine Ops.pure H (X.cmp rfl rfl rfl) rfl rfl rfl ?_
      refine Ops.pure H (X.pick_f rfl rfl) rfl rfl rfl ?_
      refine Ops.pure H (X.move rfl) rfl rfl rfl ?_
      refine Ops.split_ndec rfl rfl (fun h26 => ?x3) (fun h26 => ?y3)
      case' y3 =>
        refine Ops.pure H (X.fieldAddr rfl rfl rfl rfl rfl rfl) rfl rfl rfl ?_
        refine Ops.pure H (X.load1 rfl rfl rfl rfl (.tail .head) rfl) rfl rfl rfl ?_
        refine Ops.pure H (X.len_slice rfl rfl rfl) rfl rfl rfl ?_
        refine Ops.pure H (X.fieldAddr rfl rfl rfl rfl rfl rfl) rfl rfl rfl ?_
        refine Ops.pure H (X.load1 rfl rfl rfl rfl Pick.head rfl) rfl rfl rfl ?_
        refine Ops.pure H (X.len_slice rfl rfl rfl) rfl rfl rfl ?_
        refine Ops.pure H (X.cmp rfl rfl rfl) rfl rfl rfl ?_
        refine Ops.pure H (X.pick_f rfl rfl) rfl rfl rfl ?_
        (refine Ops.nil (hK _ _ ?_); clear hK K)
        refine Run.cond_ndec rfl (fun h33 => ?x4) (fun h33 => ?y4)
        case' y4 =>
          refine Run.skip ?_
          refine Run.seq ?_
          refine Run.seq ?_
          (refine Run.region ?_; intro K hK)
          refine Ops.pure H (X.assign rfl) rfl rfl rfl ?_
          (refine Ops.nil (hK _ _ ?_); clear hK K)
          refine Run.block ?_
        case' x4 => exfalso; omega
      case' x3 => exfalso; omega
    case' x2 => exfalso; omega
  case' x1 => exfalso; omega
  have hf := H.fr
  have k2 := H.pick (.tail .head)
  have k3 := H.pick .head
  have hne : b2 ≠ b3 := by have := H.nd; simp [List.pairwise_cons] at this; omega
  refine Run.rounds (fun (x : Nat) => [(2, .pointer (some ⟨b2, 0, none⟩)), (3, .pointer (some ⟨b3, 0, none⟩)), (5, .int .i64 (x : Nat))]) (fun x w' => Fr w w' [] ∧ x ≤ t.parts.length) (fun x => t.parts.length - x) 0 (by repeat (first | exact trivial | refine ⟨rfl, ?_⟩)) ⟨Fr.refl _ _, by omega⟩ ?_
  clear H
  rintro x w1 ⟨hf1, hx⟩ IH
  have hz := hf.then hf1
  have H := ((Holds.start w1 []).add false (hf1.get k2 (by simp)) (by simp) (by simp)).add false (hf1.get k3 (by simp)) (by simpa using hne.symm) (by simp)
  by_cases hlt : x < t.parts.length
  · obtain ⟨rfl, hb⟩ := h4 (by omega)
    obtain ⟨rfl, hb'⟩ := h4' (by omega)
    have hc := h5.at1 hlt
    have hc' := h5'.at1 hlt
    have hl := lt_of_at hb
    have hl' := lt_of_at hb'
    by_cases hbb : b = b'
    · subst hbb
      rw [hb] at hb'
      cases hb'
      replace H := H.add false (hz.get hb (by simp)) (by simp; omega) (by simp)
      refine Run.seq ?_
      refine Run.seq ?_
      (refine Run.region ?_; intro K hK)
      refine Ops.pure H (X.move rfl) rfl rfl rfl ?_
      refine Ops.pure H (X.fieldAddr rfl rfl rfl rfl rfl rfl) rfl rfl rfl ?_
      refine Ops.pure H (X.load1 rfl rfl rfl rfl (.tail (.tail .head)) rfl) rfl rfl rfl ?_
      refine Ops.pure H (X.len_slice rfl rfl rfl) rfl rfl rfl ?_
      refine Ops.pure H (X.cmp rfl rfl rfl) rfl rfl rfl ?_
      (refine Ops.nil (hK _ _ ?_); clear hK K)
      refine Run.cond_dec rfl (fun h38 => ?x5) (fun h38 => ?y5)
      case' y5 => exfalso; omega
      case' x5 =>
        refine Run.skip ?_
        refine Run.seq ?_
        refine Run.block ?_
        refine Run.seq ?_
        (refine Run.draw H [] [0, 1, 2, 3, 4, 5, 6, 7, 8, 9, 10] ?_; clear H; intro K hK w H)
        refine Draw.take0 rfl (X.fieldAddr rfl rfl rfl rfl rfl rfl) rfl rfl rfl (by decide +kernel) ?_
        refine Draw.take rfl (X.load1 rfl rfl rfl rfl (.tail (.tail .head)) rfl) rfl rfl rfl (by decide +kernel) ?_
        refine Draw.take0 rfl (X.move rfl) rfl rfl rfl (by decide +kernel) ?_
        refine Draw.take0 rfl (X.indexAddr rfl rfl (by omega) rfl rfl rfl rfl) rfl rfl rfl (by decide +kernel) ?_
        refine Draw.take rfl (X.load1 rfl rfl rfl rfl Pick.head (by assumption)) rfl rfl rfl (by decide +kernel) ?_
        refine Draw.take0 rfl (X.fieldAddr rfl rfl rfl rfl rfl rfl) rfl rfl rfl (by decide +kernel) ?_
        refine Draw.take rfl (X.load1 rfl rfl rfl rfl (.tail .head) rfl) rfl rfl rfl (by decide +kernel) ?_
        refine Draw.take0 rfl (X.move rfl) rfl rfl rfl (by decide +kernel) ?_
        refine Draw.take0 rfl (X.indexAddr rfl rfl (by omega) rfl rfl rfl rfl) rfl rfl rfl (by decide +kernel) ?_
        refine Draw.take rfl (X.load1 rfl rfl rfl rfl Pick.head (by assumption)) rfl rfl rfl (by decide +kernel) ?_
        refine Draw.take0 rfl (X.cmp rfl rfl rfl) rfl rfl rfl (by decide +kernel) ?_
        (refine Draw.done (by decide +kernel) (hK _ _ ?_); clear hK K)
        refine Run.cond_ndec rfl (fun h51 => ?x6) (fun h51 => ?y6)
        case' y6 =>
          refine Run.skip ?_
          refine Run.inBlock ?_
          (refine Run.region ?_; intro K hK)
          refine Ops.pure H (X.move rfl) rfl rfl rfl ?_
          refine Ops.pure H (X.succ rfl rfl (by omega)) rfl rfl rfl ?_
          refine Ops.pure H (X.assign rfl) rfl rfl rfl ?_
          (refine Ops.nil (hK _ _ ?_); clear hK K)
        case' x6 => exfalso; omega
      exact (IH (x + 1) _ (by omega) ⟨hf1.then H.fr, by omega⟩).weak (by repeat (first | exact trivial | refine ⟨rfl, ?_⟩))
    · replace H := (H.add false (hz.get hb (by simp)) (by simp; omega) (by simp)).add false (hz.get hb' (by simp)) (by simp; omega) (by simp)
      refine Run.seq ?_
      refine Run.seq ?_
      (refine Run.region ?_; intro K hK)
      refine Ops.pure H (X.move rfl) rfl rfl rfl ?_
      refine Ops.pure H (X.fieldAddr rfl rfl rfl rfl rfl rfl) rfl rfl rfl ?_
      refine Ops.pure H (X.load1 rfl rfl rfl rfl (.tail (.tail (.tail .head))) rfl) rfl rfl rfl ?_
      refine Ops.pure H (X.len_slice rfl rfl rfl) rfl rfl rfl ?_
      refine Ops.pure H (X.cmp rfl rfl rfl) rfl rfl rfl ?_
      (refine Ops.nil (hK _ _ ?_); clear hK K)
      refine Run.cond_dec rfl (fun h38 => ?x7) (fun h38 => ?y7)
      case' y7 => exfalso; omega
      case' x7 =>
        refine Run.skip ?_
        refine Run.seq ?_
        refine Run.block ?_
        refine Run.seq ?_
        (refine Run.draw H [] [0, 1, 2, 3, 4, 5, 6, 7, 8, 9, 10] ?_; clear H; intro K hK w H)
        refine Draw.take0 rfl (X.fieldAddr rfl rfl rfl rfl rfl rfl) rfl rfl rfl (by decide +kernel) ?_
        refine Draw.take rfl (X.load1 rfl rfl rfl rfl (.tail (.tail (.tail .head))) rfl) rfl rfl rfl (by decide +kernel) ?_
        refine Draw.take0 rfl (X.move rfl) rfl rfl rfl (by decide +kernel) ?_
        refine Draw.take0 rfl (X.indexAddr rfl rfl (by omega) rfl rfl rfl rfl) rfl rfl rfl (by decide +kernel) ?_
        refine Draw.take rfl (X.load1 rfl rfl rfl rfl (.tail .head) (by assumption)) rfl rfl rfl (by decide +kernel) ?_
        refine Draw.take0 rfl (X.fieldAddr rfl rfl rfl rfl rfl rfl) rfl rfl rfl (by decide +kernel) ?_
        refine Draw.take rfl (X.load1 rfl rfl rfl rfl (.tail (.tail .head)) rfl) rfl rfl rfl (by decide +kernel) ?_
        refine Draw.take0 rfl (X.move rfl) rfl rfl rfl (by decide +kernel) ?_
        refine Draw.take0 rfl (X.indexAddr rfl rfl (by omega) rfl rfl rfl rfl) rfl rfl rfl (by decide +kernel) ?_
        refine Draw.take rfl (X.load1 rfl rfl rfl rfl Pick.head (by assumption)) rfl rfl rfl (by decide +kernel) ?_
        refine Draw.take0 rfl (X.cmp rfl rfl rfl) rfl rfl rfl (by decide +kernel) ?_
        (refine Draw.done (by decide +kernel) (hK _ _ ?_); clear hK K)
        refine Run.cond_ndec rfl (fun h51 => ?x8) (fun h51 => ?y8)
        case' y8 =>
          refine Run.skip ?_
          refine Run.inBlock ?_
          (refine Run.region ?_; intro K hK)
          refine Ops.pure H (X.move rfl) rfl rfl rfl ?_
          refine Ops.pure H (X.succ rfl rfl (by omega)) rfl rfl rfl ?_
          refine Ops.pure H (X.assign rfl) rfl rfl rfl ?_
          (refine Ops.nil (hK _ _ ?_); clear hK K)
        case' x8 => exfalso; omega
      exact (IH (x + 1) _ (by omega) ⟨hf1.then H.fr, by omega⟩).weak (by repeat (first | exact trivial | refine ⟨rfl, ?_⟩))
  · refine Run.seq ?_
    refine Run.seq ?_
    (refine Run.region ?_; intro K hK)
    refine Ops.pure H (X.move rfl) rfl rfl rfl ?_
    refine Ops.pure H (X.fieldAddr rfl rfl rfl rfl rfl rfl) rfl rfl rfl ?_
    refine Ops.pure H (X.load1 rfl rfl rfl rfl (.tail .head) rfl) rfl rfl rfl ?_
    refine Ops.pure H (X.len_slice rfl rfl rfl) rfl rfl rfl ?_
    refine Ops.pure H (X.cmp rfl rfl rfl) rfl rfl rfl ?_
    (refine Ops.nil (hK _ _ ?_); clear hK K)
    refine Run.cond_dec rfl (fun h38 => ?x9) (fun h38 => ?y9)
    case' y9 =>
      refine Run.exit rfl ?_
      refine Run.seq ?_
      (refine Run.region ?_; intro K hK)
      refine Ops.pure H (X.assign rfl) rfl rfl rfl ?_
      (refine Ops.nil (hK _ _ ?_); clear hK K)
    case' x9 => exfalso; omega
    (first | refine Fn.ret1 HF rfl rfl ?_ | refine Fn.ret2 HF rfl rfl rfl ?_ | refine Fn.ret3 HF rfl rfl rfl rfl ?_ | refine Fn.ret0 HF rfl ?_ | refine Fn.fin0 HF rfl ?_ | refine Fn.retG (E := env) HF rfl H (by first | exact RVs.cellN rfl rfl rfl (by first | exact .head | exact .tail .head | exact .tail (.tail .head) | exact .tail (.tail (.tail .head)) | exact .tail (.tail (.tail (.tail .head))) | exact .tail (.tail (.tail (.tail (.tail .head)))) | exact .tail (.tail (.tail (.tail (.tail (.tail .head)))))) (by first | assumption | exact Cs.take rfl) RVs.nil | exact RVs.cellN rfl rfl rfl (by first | exact .head | exact .tail .head | exact .tail (.tail .head) | exact .tail (.tail (.tail .head)) | exact .tail (.tail (.tail (.tail .head))) | exact .tail (.tail (.tail (.tail (.tail .head)))) | exact .tail (.tail (.tail (.tail (.tail (.tail .head)))))) (by first | assumption | exact Cs.take rfl) (RVs.tmp rfl RVs.nil)) rfl ?_)
    exact ⟨rfl, hz.then H.fr⟩
end Go.Proofs.Ythidohdnaeboaaa
