/- Walks of layer 6: Up. -/
import Derived.Test.YtpmihcefjdeonaaNC
namespace Go.Proofs.Ytpmihcefjdeonaa
open Go
set_option maxRecDepth 20000
set_option maxHeartbeats 2000000
attribute [local irreducible] Run Ops Fn Draw Draw2 PureOp StepZ

def Ns.upTo (s : Ns) (i : Nat) : Nat → Ns
  | 0 => s.setU i true
  | m + 1 => if m = i then (s.upTo i m).anew (i, m) else ((s.upTo i m).anew (i, m)).anew (m, i)
def Ns.upE (s : Ns) (i : Int) : Int := if s.isN i then (if s.up i.toNat then 1 else 0) else 60
def Ns.upS (s : Ns) (i : Int) : Ns := if s.upE i = 0 then s.upTo i.toNat s.n else s
theorem anew_ep (s : Ns) (a b : Nat × Nat) : ((s.anew a).way b).ep ≤ (s.way b).ep + 1 := by
  unfold Ns.anew Ns.setW
  dsimp only
  split
  · subst b; exact Nat.le_refl _
  · omega
theorem upTo_ep (s : Ns) (i m : Nat) (b : Nat × Nat) : ((s.upTo i m).way b).ep ≤ (s.way b).ep + 2 * m := by
  induction m with
  | zero => exact Nat.le_refl _
  | succ m ih =>
    unfold Ns.upTo
    split
    · have := anew_ep (s.upTo i m) (i, m) b; omega
    · have := anew_ep (s.upTo i m) (i, m) b
      have := anew_ep ((s.upTo i m).anew (i, m)) (m, i) b
      omega
theorem up_any (z : World) (g : PG) (i : Int) (k : Nat) (h : PN z g) (hok : g.abs.Ok k) (hk : k ≤ 4398046511000) : Fn env.P 19 [.pointer (some ⟨g.nb, 0, none⟩), .int .i64 i] z (POp z g (g.abs.upE i) (g.abs.upS i)) := by
  obtain ⟨cu, cx, fv, a1, a2, a3, _⟩ := h.net
  obtain ⟨us, u1, u2, u3⟩ := h.upr
  have H := ((Holds.start z [g.ub]).add false a1 (by simp) (by simp)).add true u1 (by simpa using ne_of_ty u1 a1 (by decide)) (by simp)
  have HF := Try.func19; refine Fn.enter Try.func19 Try.ntmps19 rfl rfl rfl ?_
  refine Run.seq ?_
  (refine Run.region ?_; intro K hK)
  refine Ops.pure H (X.assign rfl) rfl rfl rfl ?_
  (refine Ops.nil (hK _ _ ?_); clear hK K)
  refine Run.seq ?_
  refine Run.seq ?_
  (refine Run.region ?_; intro K hK)
  refine Ops.pure H (X.move rfl) rfl rfl rfl ?_
  refine Ops.pure H (X.move rfl) rfl rfl rfl ?_
  refine Ops.eff rfl (Y.call rfl rfl (by first | assumption | decide +kernel) rfl (is_any _ g i h) rfl ?_)
  rintro v w1 ⟨rfl, rfl⟩
  cases hi : g.abs.isN i with
  | false =>
    refine Ops.pure H (X.not rfl) rfl rfl rfl ?_
    (refine Ops.nil (hK _ _ ?_); clear hK K)
    refine Run.cond_true rfl ?_
    refine Run.seq ?_
    (refine Run.region ?_; intro K hK)
    refine Ops.pure H (X.assign rfl) rfl rfl rfl ?_
    (refine Ops.nil (hK _ _ ?_); clear hK K)
    (first | refine Fn.ret1 HF rfl rfl ?_ | refine Fn.ret2 HF rfl rfl rfl ?_ | refine Fn.ret3 HF rfl rfl rfl rfl ?_ | refine Fn.ret0 HF rfl ?_ | refine Fn.fin0 HF rfl ?_ | refine Fn.retG (E := env) HF rfl H (by first | exact RVs.cellN rfl rfl rfl (by first | exact .head | exact .tail .head | exact .tail (.tail .head) | exact .tail (.tail (.tail .head)) | exact .tail (.tail (.tail (.tail .head))) | exact .tail (.tail (.tail (.tail (.tail .head)))) | exact .tail (.tail (.tail (.tail (.tail (.tail .head)))))) (by first | assumption | exact Cs.take rfl) RVs.nil | exact RVs.cellN rfl rfl rfl (by first | exact .head | exact .tail .head | exact .tail (.tail .head) | exact .tail (.tail (.tail .head)) | exact .tail (.tail (.tail (.tail .head))) | exact .tail (.tail (.tail (.tail (.tail .head)))) | exact .tail (.tail (.tail (.tail (.tail (.tail .head)))))) (by first | assumption | exact Cs.take rfl) (RVs.tmp rfl RVs.nil) | exact RVs.cellN rfl rfl rfl (by first | exact .head | exact .tail .head | exact .tail (.tail .head) | exact .tail (.tail (.tail .head)) | exact .tail (.tail (.tail (.tail .head))) | exact .tail (.tail (.tail (.tail (.tail .head)))) | exact .tail (.tail (.tail (.tail (.tail (.tail .head)))))) (by first | assumption | exact Cs.take rfl) (RVs.tmp rfl (RVs.tmp rfl RVs.nil))) rfl ?_)
    exact ⟨by simp [Ns.upE, hi], g, .rfl' h (Fr.refl _ _), by simp [Ns.upS, Ns.upE, hi]⟩
  | true =>
    obtain ⟨i, rfl, hk'⟩ := isN_iff.1 hi
    replace hk' : i < g.n := hk'
    have hc : us[0 + i * 1]? = some (.bool (g.up i)) := by rw [Nat.zero_add, Nat.mul_one]; exact u3 i hk'
    cases hu : g.up i with
    | true =>
      rw [hu] at hc
      refine Ops.pure H (X.not rfl) rfl rfl rfl ?_
      (refine Ops.nil (hK _ _ ?_); clear hK K)
      refine Run.cond_false rfl ?_
      refine Run.skip ?_
      refine Run.seq ?_
      refine Run.seq ?_
      (refine Run.region ?_; intro K hK)
      refine Ops.pure H (X.move rfl) rfl rfl rfl ?_
      refine Ops.pure H (X.nilCheck rfl) rfl rfl rfl ?_
      refine Ops.pure H (X.fieldAddr rfl rfl rfl rfl rfl rfl) rfl rfl rfl ?_
      refine Ops.pure H (X.load1 rfl rfl rfl rfl (.tail .head) rfl) rfl rfl rfl ?_
      refine Ops.pure H (X.move rfl) rfl rfl rfl ?_
      refine Ops.pure H (X.indexAddr rfl rfl (by omega) rfl rfl rfl rfl) rfl rfl rfl ?_
      refine Ops.pure H (X.load1 rfl rfl rfl rfl Pick.head (by assumption)) rfl rfl rfl ?_
      (refine Ops.nil (hK _ _ ?_); clear hK K)
      refine Run.cond_true rfl ?_
      refine Run.seq ?_
      (refine Run.region ?_; intro K hK)
      refine Ops.pure H (X.assign rfl) rfl rfl rfl ?_
      (refine Ops.nil (hK _ _ ?_); clear hK K)
      (first | refine Fn.ret1 HF rfl rfl ?_ | refine Fn.ret2 HF rfl rfl rfl ?_ | refine Fn.ret3 HF rfl rfl rfl rfl ?_ | refine Fn.ret0 HF rfl ?_ | refine Fn.fin0 HF rfl ?_ | refine Fn.retG (E := env) HF rfl H (by first | exact RVs.cellN rfl rfl rfl (by first | exact .head | exact .tail .head | exact .tail (.tail .head) | exact .tail (.tail (.tail .head)) | exact .tail (.tail (.tail (.tail .head))) | exact .tail (.tail (.tail (.tail (.tail .head)))) | exact .tail (.tail (.tail (.tail (.tail (.tail .head)))))) (by first | assumption | exact Cs.take rfl) RVs.nil | exact RVs.cellN rfl rfl rfl (by first | exact .head | exact .tail .head | exact .tail (.tail .head) | exact .tail (.tail (.tail .head)) | exact .tail (.tail (.tail (.tail .head))) | exact .tail (.tail (.tail (.tail (.tail .head)))) | exact .tail (.tail (.tail (.tail (.tail (.tail .head)))))) (by first | assumption | exact Cs.take rfl) (RVs.tmp rfl RVs.nil) | exact RVs.cellN rfl rfl rfl (by first | exact .head | exact .tail .head | exact .tail (.tail .head) | exact .tail (.tail (.tail .head)) | exact .tail (.tail (.tail (.tail .head))) | exact .tail (.tail (.tail (.tail (.tail .head)))) | exact .tail (.tail (.tail (.tail (.tail (.tail .head)))))) (by first | assumption | exact Cs.take rfl) (RVs.tmp rfl (RVs.tmp rfl RVs.nil))) rfl ?_)
      exact ⟨by simp [Ns.upE, hi, abs_up, hu], g, .rfl' h (Fr.refl _ _), by simp [Ns.upS, Ns.upE, hi, abs_up, hu]⟩
    | false =>
      rw [hu] at hc
      have hE : g.abs.upE (i : Nat) = 0 := by simp [Ns.upE, hi, abs_up, hu]
      refine Ops.pure H (X.not rfl) rfl rfl rfl ?_
      (refine Ops.nil (hK _ _ ?_); clear hK K)
      refine Run.cond_false rfl ?_
      refine Run.skip ?_
      refine Run.seq ?_
      refine Run.seq ?_
      (refine Run.region ?_; intro K hK)
      refine Ops.pure H (X.move rfl) rfl rfl rfl ?_
      refine Ops.pure H (X.nilCheck rfl) rfl rfl rfl ?_
      refine Ops.pure H (X.fieldAddr rfl rfl rfl rfl rfl rfl) rfl rfl rfl ?_
      refine Ops.pure H (X.load1 rfl rfl rfl rfl (.tail .head) rfl) rfl rfl rfl ?_
      refine Ops.pure H (X.move rfl) rfl rfl rfl ?_
      refine Ops.pure H (X.indexAddr rfl rfl (by omega) rfl rfl rfl rfl) rfl rfl rfl ?_
      refine Ops.pure H (X.load1 rfl rfl rfl rfl Pick.head (by assumption)) rfl rfl rfl ?_
      (refine Ops.nil (hK _ _ ?_); clear hK K)
      refine Run.cond_false rfl ?_
      refine Run.skip ?_
      refine Run.seq ?_
      (refine Run.region ?_; intro K hK)
      refine Ops.pure H (X.move rfl) rfl rfl rfl ?_
      refine Ops.pure H (X.nilCheck rfl) rfl rfl rfl ?_
      refine Ops.pure H (X.fieldAddr rfl rfl rfl rfl rfl rfl) rfl rfl rfl ?_
      refine Ops.pure H (X.load1 rfl rfl rfl rfl (.tail .head) rfl) rfl rfl rfl ?_
      refine Ops.pure H (X.move rfl) rfl rfl rfl ?_
      refine Ops.pure H (X.indexAddr rfl rfl (by omega) rfl rfl rfl rfl) rfl rfl rfl ?_
      (refine Ops.eff rfl (Y.storeI rfl rfl rfl rfl rfl rfl H Upd.head (by omega) ?_); intro w H0; clear H; have H := H0; clear H0)
      (refine Ops.nil (hK _ _ ?_); clear hK K)
      refine Run.seq ?_
      refine Run.seq ?_
      (refine Run.region ?_; intro K hK)
      refine Ops.pure H (X.move rfl) rfl rfl rfl ?_
      refine Ops.pure H (X.nilCheck rfl) rfl rfl rfl ?_
      refine Ops.pure H (X.fieldAddr rfl rfl rfl rfl rfl rfl) rfl rfl rfl ?_
      refine Ops.pure H (X.load1 rfl rfl rfl rfl (.tail .head) rfl) rfl rfl rfl ?_
      refine Ops.pure H (X.len_slice rfl rfl rfl) rfl rfl rfl ?_
      refine Ops.pure H (X.move rfl) rfl rfl rfl ?_
      (refine Ops.nil (hK _ _ ?_); clear hK K)
      refine Run.block ?_
      have st := h.setUp (i := i) (v := true) hk' H.fr u1 (by have := H.pick (b := g.ub) (by first | exact .head | exact .tail .head | exact .tail (.tail .head) | exact .tail (.tail (.tail .head)) | exact .tail (.tail (.tail (.tail .head))) | exact .tail (.tail (.tail (.tail (.tail .head)))) | exact .tail (.tail (.tail (.tail (.tail (.tail .head)))))); simpa using this)
      refine Run.rounds (fun (x : Nat) => [(0, .pointer (some ⟨g.nb, 0, none⟩)), (1, .int .i64 (i : Nat)), (27, .int .i64 (g.n : Nat)), (28, .int .i64 (x : Nat))]) (fun x w' => x ≤ g.n ∧ ∃ g', PStep w1 g w' g' ∧ g'.abs = g.abs.upTo i x) (fun x => g.n - x) 0 (by repeat (first | exact trivial | refine ⟨rfl, ?_⟩)) ⟨by omega, _, st, abs_updu _ _ _⟩ ?_
      clear H st
      rintro x w2 ⟨hx, g2, st, hab⟩ IH
      have h64 := h.n64
      have H := Holds.start w2 []
      by_cases hlt : x < g.n
      · have e1 : (g2.abs.way (i, x)).ep ≤ 4611686018427387903 := by rw [hab]; have := upTo_ep g.abs i x (i, x); have := (hok.way (i, x)).1; omega
        have e2 : (((g.abs.upTo i x).anew (i, x)).way (x, i)).ep ≤ 4611686018427387903 := by have := anew_ep (g.abs.upTo i x) (i, x) (x, i); have := upTo_ep g.abs i x (x, i); have := (hok.way (x, i)).1; omega
        refine Run.seq ?_
        (refine Run.region ?_; intro K hK)
        refine Ops.pure H (X.cmp rfl rfl rfl) rfl rfl rfl ?_
        (refine Ops.nil (hK _ _ ?_); clear hK K)
        refine Run.seq ?_
        refine Run.cond_dec rfl (fun h29 => ?x0) (fun h29 => ?y0)
        case' y0 => exfalso; omega
        case' x0 =>
          refine Run.skip ?_
          refine Run.seq ?_
          refine Run.block ?_
          refine Run.seq ?_
          (refine Run.region ?_; intro K hK)
          refine Ops.pure H (X.move rfl) rfl rfl rfl ?_
          refine Ops.pure H (X.assign rfl) rfl rfl rfl ?_
          (refine Ops.nil (hK _ _ ?_); clear hK K)
          refine Run.seq ?_
          (refine Run.region ?_; intro K hK)
          refine Ops.pure H (X.move rfl) rfl rfl rfl ?_
          refine Ops.pure H (X.move rfl) rfl rfl rfl ?_
          refine Ops.pure H (X.move rfl) rfl rfl rfl ?_
        refine Ops.eff rfl (Y.call rfl rfl (by first | assumption | decide +kernel) rfl (anew_any _ g2 i x st.nb (st.ok.ext H.fr) (by rw [st.n]; exact hk') (by rw [st.n]; exact hlt) e1) rfl ?_)
        rintro v w3 ⟨g3, st3, hab3⟩
        replace st3 := st.trans (.pre st.ok H.fr st3)
        rw [hab] at hab3
        clear H
        have H := Holds.start w3 []
        by_cases hxi : x = i
        · subst hxi
          (refine Ops.nil (hK _ _ ?_); clear hK K)
          refine Run.seq ?_
          (refine Run.region ?_; intro K hK)
          refine Ops.pure H (X.move rfl) rfl rfl rfl ?_
          refine Ops.pure H (X.move rfl) rfl rfl rfl ?_
          refine Ops.pure H (X.cmp rfl rfl rfl) rfl rfl rfl ?_
          (refine Ops.nil (hK _ _ ?_); clear hK K)
          refine Run.cond_ndec rfl (fun h37 => ?x1) (fun h37 => ?y1)
          case' y1 =>
            refine Run.skip ?_
            refine Run.inBlock ?_
            (refine Run.region ?_; intro K hK)
            refine Ops.pure H (X.succ rfl rfl (by omega)) rfl rfl rfl ?_
            refine Ops.pure H (X.move rfl) rfl rfl rfl ?_
            (refine Ops.nil (hK _ _ ?_); clear hK K)
          case' x1 => exfalso; omega
          refine (IH (x + 1) _ (by omega) ⟨by omega, g3, st3.ext H.fr, ?_⟩).weak (by repeat (first | exact trivial | refine ⟨rfl, ?_⟩))
          rw [hab3, Ns.upTo, if_pos rfl]
        · (refine Ops.nil (hK _ _ ?_); clear hK K)
          refine Run.seq ?_
          (refine Run.region ?_; intro K hK)
          refine Ops.pure H (X.move rfl) rfl rfl rfl ?_
          refine Ops.pure H (X.move rfl) rfl rfl rfl ?_
          refine Ops.pure H (X.cmp rfl rfl rfl) rfl rfl rfl ?_
          (refine Ops.nil (hK _ _ ?_); clear hK K)
          refine Run.cond_ndec rfl (fun h37 => ?x2) (fun h37 => ?y2)
          case' y2 => exfalso; omega
          case' x2 =>
            (refine Run.region ?_; intro K hK)
            refine Ops.pure H (X.move rfl) rfl rfl rfl ?_
            refine Ops.pure H (X.move rfl) rfl rfl rfl ?_
            refine Ops.pure H (X.move rfl) rfl rfl rfl ?_
          refine Ops.eff rfl (Y.call rfl rfl (by first | assumption | decide +kernel) rfl (anew_any _ g3 x i st3.nb (st3.ok.ext H.fr) (by rw [st3.n]; exact hlt) (by rw [st3.n]; exact hk') (by rw [hab3]; exact e2)) rfl ?_)
          rintro v w4 ⟨g4, st4, hab4⟩
          replace st4 := st3.trans (.pre st3.ok H.fr st4)
          rw [hab3] at hab4
          clear H
          have H := Holds.start w4 []
          (refine Ops.nil (hK _ _ ?_); clear hK K)
          refine Run.inBlock ?_
          (refine Run.region ?_; intro K hK)
          refine Ops.pure H (X.succ rfl rfl (by omega)) rfl rfl rfl ?_
          refine Ops.pure H (X.move rfl) rfl rfl rfl ?_
          (refine Ops.nil (hK _ _ ?_); clear hK K)
          refine (IH (x + 1) _ (by omega) ⟨by omega, g4, st4.ext H.fr, ?_⟩).weak (by repeat (first | exact trivial | refine ⟨rfl, ?_⟩))
          rw [hab4, Ns.upTo, if_neg hxi]
      · refine Run.seq ?_
        (refine Run.region ?_; intro K hK)
        refine Ops.pure H (X.cmp rfl rfl rfl) rfl rfl rfl ?_
        (refine Ops.nil (hK _ _ ?_); clear hK K)
        refine Run.seq ?_
        refine Run.cond_dec rfl (fun h29 => ?x3) (fun h29 => ?y3)
        case' y3 =>
          refine Run.exit rfl ?_
          refine Run.seq ?_
          (refine Run.region ?_; intro K hK)
          refine Ops.pure H (X.assign rfl) rfl rfl rfl ?_
          (refine Ops.nil (hK _ _ ?_); clear hK K)
        case' x3 => exfalso; omega
        (first | refine Fn.ret1 HF rfl rfl ?_ | refine Fn.ret2 HF rfl rfl rfl ?_ | refine Fn.ret3 HF rfl rfl rfl rfl ?_ | refine Fn.ret0 HF rfl ?_ | refine Fn.fin0 HF rfl ?_ | refine Fn.retG (E := env) HF rfl H (by first | exact RVs.cellN rfl rfl rfl (by first | exact .head | exact .tail .head | exact .tail (.tail .head) | exact .tail (.tail (.tail .head)) | exact .tail (.tail (.tail (.tail .head))) | exact .tail (.tail (.tail (.tail (.tail .head)))) | exact .tail (.tail (.tail (.tail (.tail (.tail .head)))))) (by first | assumption | exact Cs.take rfl) RVs.nil | exact RVs.cellN rfl rfl rfl (by first | exact .head | exact .tail .head | exact .tail (.tail .head) | exact .tail (.tail (.tail .head)) | exact .tail (.tail (.tail (.tail .head))) | exact .tail (.tail (.tail (.tail (.tail .head)))) | exact .tail (.tail (.tail (.tail (.tail (.tail .head)))))) (by first | assumption | exact Cs.take rfl) (RVs.tmp rfl RVs.nil) | exact RVs.cellN rfl rfl rfl (by first | exact .head | exact .tail .head | exact .tail (.tail .head) | exact .tail (.tail (.tail .head)) | exact .tail (.tail (.tail (.tail .head))) | exact .tail (.tail (.tail (.tail (.tail .head)))) | exact .tail (.tail (.tail (.tail (.tail (.tail .head)))))) (by first | assumption | exact Cs.take rfl) (RVs.tmp rfl (RVs.tmp rfl RVs.nil))) rfl ?_)
        refine ⟨by rw [hE], g2, st.ext H.fr, ?_⟩
        obtain rfl : x = g.n := by omega
        rw [hab, Ns.upS, if_pos hE]
        rfl
end Go.Proofs.Ytpmihcefjdeonaa
