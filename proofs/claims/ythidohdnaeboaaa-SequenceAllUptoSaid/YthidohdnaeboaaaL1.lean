/- Walks of the law of all orders: numbers. -/
import Derived.Test.YthidohdnaeboaaaR3
namespace Go.Proofs.Ythidohdnaeboaaa
open Go
set_option maxRecDepth 20000
set_option maxHeartbeats 2000000
attribute [local irreducible] Run Ops Fn Draw Draw2 PureOp StepZ

/-- Two lists of numbers that are the same: yes; the first one is written over. -/
theorem numbers_any (z : World) (v u : Value) (t1 t2 : Nat) (xs : List Int) (hv : Own z t1 30 1 v xs.length (u64s xs)) (hu : Own z t2 30 1 u xs.length (u64s xs)) (hne : ∀ b b' n n' c c', v = .slice (some ⟨b, 0, none⟩) n c → u = .slice (some ⟨b', 0, none⟩) n' c' → b ≠ b') :
    Fn env.P 44 [v, u] z fun r w' => r = .bool true ∧ ∃ S, Fr z w' S ∧ ∀ x ∈ S, t1 ≤ x := by
  by_cases h0 : 0 < xs.length
  · obtain ⟨b, cap, cs, rfl, h1, h2, h3, h4, h5, h6⟩ := hv.get h0
    obtain ⟨b', cap', cs', rfl, h1', h2', h3', h4', h5', h6'⟩ := hu.get h0
    have hbb := hne _ _ _ _ _ _ rfl rfl
    have H := ((Holds.start z [b]).add false h4' (by simp) (by simp)).add true h4 (by simpa using hbb) (by simp)
    have HF := Try.func44; refine Fn.enter Try.func44 Try.ntmps44 rfl rfl rfl ?_
    refine Run.seq ?_
    (refine Run.region ?_; intro K hK)
    refine Ops.pure H (X.assign rfl) rfl rfl rfl ?_
    (refine Ops.nil (hK _ _ ?_); clear hK K)
    refine Run.seq ?_
    refine Run.seq ?_
    (refine Run.region ?_; intro K hK)
    refine Ops.pure H (X.move rfl) rfl rfl rfl ?_
    refine Ops.pure H (X.len_slice rfl rfl rfl) rfl rfl rfl ?_
    refine Ops.pure H (X.move rfl) rfl rfl rfl ?_
    refine Ops.pure H (X.len_slice rfl rfl rfl) rfl rfl rfl ?_
    refine Ops.pure H (X.cmp rfl rfl rfl) rfl rfl rfl ?_
    (refine Ops.nil (hK _ _ ?_); clear hK K)
    refine Run.cond_ndec rfl (fun h10 => ?x0) (fun h10 => ?y0)
    case' y0 =>
      refine Run.skip ?_
      refine Run.seq ?_
      refine Run.seq ?_
      (refine Run.region ?_; intro K hK)
      refine Ops.pure H (X.assign rfl) rfl rfl rfl ?_
      (refine Ops.nil (hK _ _ ?_); clear hK K)
      refine Run.block ?_
    case' x0 => exfalso; omega
    refine Run.rounds (fun (i : Nat) => [(0, .slice (some ⟨b, 0, none⟩) xs.length cap), (1, .slice (some ⟨b', 0, none⟩) xs.length cap'), (5, .int .i64 (i : Nat))]) (fun i w' => i ≤ xs.length ∧ ∃ cs, Holds z [b] w' [⟨b, row cs 30, true⟩, ⟨b', row cs' 30, false⟩] ∧ cs.length = cap * 1 ∧ ∀ j, i ≤ j → j < xs.length → cs[0 + j * 1]? = some (.int .u64 (xs.getD j 0))) (fun i => xs.length - i) 0 (by repeat (first | exact trivial | refine ⟨rfl, ?_⟩)) ⟨by omega, cs, H, h5, fun j _ hj => by rw [Nat.mul_one, h6.toGet (by omega)]; simp [hj]⟩ ?_
    clear H
    rintro i w1 ⟨hi, ds, H, hl, hd⟩ IH
    by_cases hlt : i < xs.length
    · have hc := hd i (Nat.le_refl _) hlt
      have hc' : cs'[0 + i * 1]? = some (.int .u64 (xs.getD i 0)) := by rw [Nat.mul_one, h6'.toGet (by omega)]; simp [hlt]
      refine Run.seq ?_
      refine Run.seq ?_
      (refine Run.region ?_; intro K hK)
      refine Ops.pure H (X.move rfl) rfl rfl rfl ?_
      refine Ops.pure H (X.move rfl) rfl rfl rfl ?_
      refine Ops.pure H (X.len_slice rfl rfl rfl) rfl rfl rfl ?_
      refine Ops.pure H (X.cmp rfl rfl rfl) rfl rfl rfl ?_
      (refine Ops.nil (hK _ _ ?_); clear hK K)
      refine Run.cond_dec rfl (fun h14 => ?x1) (fun h14 => ?y1)
      case' y1 => exfalso; omega
      case' x1 =>
        refine Run.skip ?_
        refine Run.seq ?_
        refine Run.block ?_
        refine Run.seq ?_
        refine Run.seq ?_
        (refine Run.draw H [] [0, 1, 2, 3, 4, 5, 6, 7, 8] ?_; clear H; intro K hK w H)
        refine Draw.take0 rfl (X.move rfl) rfl rfl rfl (by decide +kernel) ?_
        refine Draw.take0 rfl (X.move rfl) rfl rfl rfl (by decide +kernel) ?_
        refine Draw.take0 rfl (X.indexAddr rfl rfl (by omega) rfl rfl rfl rfl) rfl rfl rfl (by decide +kernel) ?_
        refine Draw.take rfl (X.load1 rfl rfl rfl rfl Pick.head (by assumption)) rfl rfl rfl (by decide +kernel) ?_
        refine Draw.take0 rfl (X.move rfl) rfl rfl rfl (by decide +kernel) ?_
        refine Draw.take0 rfl (X.move rfl) rfl rfl rfl (by decide +kernel) ?_
        refine Draw.take0 rfl (X.indexAddr rfl rfl (by omega) rfl rfl rfl rfl) rfl rfl rfl (by decide +kernel) ?_
        refine Draw.take rfl (X.load1 rfl rfl rfl rfl (.tail .head) (by assumption)) rfl rfl rfl (by decide +kernel) ?_
        refine Draw.take0 rfl (X.cmp rfl rfl rfl) rfl rfl rfl (by decide +kernel) ?_
        (refine Draw.done (by decide +kernel) (hK _ _ ?_); clear hK K)
        refine Run.cond_ndec rfl (fun h25 => ?x2) (fun h25 => ?y2)
        case' y2 =>
          refine Run.skip ?_
          (refine Run.region ?_; intro K hK)
          refine Ops.pure H (X.move rfl) rfl rfl rfl ?_
          refine Ops.pure H (X.move rfl) rfl rfl rfl ?_
          refine Ops.pure H (X.indexAddr rfl rfl (by omega) rfl rfl rfl rfl) rfl rfl rfl ?_
          (refine Ops.eff rfl (Y.storeI rfl rfl rfl rfl rfl rfl H Upd.head (by omega) ?_); intro w H0; clear H; have H := H0; clear H0)
          (refine Ops.nil (hK _ _ ?_); clear hK K)
          refine Run.inBlock ?_
          (refine Run.region ?_; intro K hK)
          refine Ops.pure H (X.move rfl) rfl rfl rfl ?_
          refine Ops.pure H (X.succ rfl rfl (by omega)) rfl rfl rfl ?_
          refine Ops.pure H (X.assign rfl) rfl rfl rfl ?_
          (refine Ops.nil (hK _ _ ?_); clear hK K)
        case' x2 => exfalso; omega
      refine (IH (i + 1) _ (by omega) ⟨by omega, _, H, by simpa using hl, fun j hij hj => ?_⟩).weak (by repeat (first | exact trivial | refine ⟨rfl, ?_⟩))
      rw [List.getElem?_set_ne (by omega)]
      exact hd j (by omega) hj
    · refine Run.seq ?_
      refine Run.seq ?_
      (refine Run.region ?_; intro K hK)
      refine Ops.pure H (X.move rfl) rfl rfl rfl ?_
      refine Ops.pure H (X.move rfl) rfl rfl rfl ?_
      refine Ops.pure H (X.len_slice rfl rfl rfl) rfl rfl rfl ?_
      refine Ops.pure H (X.cmp rfl rfl rfl) rfl rfl rfl ?_
      (refine Ops.nil (hK _ _ ?_); clear hK K)
      refine Run.cond_dec rfl (fun h14 => ?x3) (fun h14 => ?y3)
      case' y3 =>
        refine Run.exit rfl ?_
        refine Run.seq ?_
        (refine Run.region ?_; intro K hK)
        refine Ops.pure H (X.assign rfl) rfl rfl rfl ?_
        (refine Ops.nil (hK _ _ ?_); clear hK K)
      case' x3 => exfalso; omega
      (first | refine Fn.ret1 HF rfl rfl ?_ | refine Fn.ret2 HF rfl rfl rfl ?_ | refine Fn.ret3 HF rfl rfl rfl rfl ?_ | refine Fn.ret0 HF rfl ?_ | refine Fn.fin0 HF rfl ?_ | refine Fn.retG (E := env) HF rfl H (by first | exact RVs.cellN rfl rfl rfl (by first | exact .head | exact .tail .head | exact .tail (.tail .head) | exact .tail (.tail (.tail .head)) | exact .tail (.tail (.tail (.tail .head))) | exact .tail (.tail (.tail (.tail (.tail .head)))) | exact .tail (.tail (.tail (.tail (.tail (.tail .head)))))) (by first | assumption | exact Cs.take rfl) RVs.nil | exact RVs.cellN rfl rfl rfl (by first | exact .head | exact .tail .head | exact .tail (.tail .head) | exact .tail (.tail (.tail .head)) | exact .tail (.tail (.tail (.tail .head))) | exact .tail (.tail (.tail (.tail (.tail .head)))) | exact .tail (.tail (.tail (.tail (.tail (.tail .head)))))) (by first | assumption | exact Cs.take rfl) (RVs.tmp rfl RVs.nil)) rfl ?_)
      exact ⟨rfl, [b], H.fr, by simpa using h3⟩
  · have hxs : xs.length = 0 := by omega
    obtain ⟨a, c, rfl⟩ := hv.slice
    obtain ⟨a', c', rfl⟩ := hu.slice
    have H := Holds.start z []
    have HF := Try.func44; refine Fn.enter Try.func44 Try.ntmps44 rfl rfl rfl ?_
    refine Run.seq ?_
    (refine Run.region ?_; intro K hK)
    refine Ops.pure H (X.assign rfl) rfl rfl rfl ?_
    (refine Ops.nil (hK _ _ ?_); clear hK K)
    refine Run.seq ?_
    refine Run.seq ?_
    (refine Run.region ?_; intro K hK)
    refine Ops.pure H (X.move rfl) rfl rfl rfl ?_
    refine Ops.pure H (X.len_slice rfl rfl rfl) rfl rfl rfl ?_
    refine Ops.pure H (X.move rfl) rfl rfl rfl ?_
    refine Ops.pure H (X.len_slice rfl rfl rfl) rfl rfl rfl ?_
    refine Ops.pure H (X.cmp rfl rfl rfl) rfl rfl rfl ?_
    (refine Ops.nil (hK _ _ ?_); clear hK K)
    refine Run.cond_ndec rfl (fun h10 => ?x4) (fun h10 => ?y4)
    case' y4 =>
      refine Run.skip ?_
      refine Run.seq ?_
      refine Run.seq ?_
      (refine Run.region ?_; intro K hK)
      refine Ops.pure H (X.assign rfl) rfl rfl rfl ?_
      (refine Ops.nil (hK _ _ ?_); clear hK K)
      refine Run.block ?_
    case' x4 => exfalso; omega
    refine Run.rounds (fun (i : Nat) => [(0, .slice a xs.length c), (1, .slice a' xs.length c'), (5, .int .i64 (i : Nat))]) (fun i w' => w' = z) (fun i => 0) 0 (by repeat (first | exact trivial | refine ⟨rfl, ?_⟩)) rfl ?_
    rintro i _ rfl IH
    refine Run.seq ?_
    refine Run.seq ?_
    (refine Run.region ?_; intro K hK)
    refine Ops.pure H (X.move rfl) rfl rfl rfl ?_
    refine Ops.pure H (X.move rfl) rfl rfl rfl ?_
    refine Ops.pure H (X.len_slice rfl rfl rfl) rfl rfl rfl ?_
    refine Ops.pure H (X.cmp rfl rfl rfl) rfl rfl rfl ?_
    (refine Ops.nil (hK _ _ ?_); clear hK K)
    refine Run.cond_dec rfl (fun h14 => ?x5) (fun h14 => ?y5)
    case' y5 =>
      refine Run.exit rfl ?_
      refine Run.seq ?_
      (refine Run.region ?_; intro K hK)
      refine Ops.pure H (X.assign rfl) rfl rfl rfl ?_
      (refine Ops.nil (hK _ _ ?_); clear hK K)
    case' x5 => exfalso; omega
    (first | refine Fn.ret1 HF rfl rfl ?_ | refine Fn.ret2 HF rfl rfl rfl ?_ | refine Fn.ret3 HF rfl rfl rfl rfl ?_ | refine Fn.ret0 HF rfl ?_ | refine Fn.fin0 HF rfl ?_ | refine Fn.retG (E := env) HF rfl H (by first | exact RVs.cellN rfl rfl rfl (by first | exact .head | exact .tail .head | exact .tail (.tail .head) | exact .tail (.tail (.tail .head)) | exact .tail (.tail (.tail (.tail .head))) | exact .tail (.tail (.tail (.tail (.tail .head)))) | exact .tail (.tail (.tail (.tail (.tail (.tail .head)))))) (by first | assumption | exact Cs.take rfl) RVs.nil | exact RVs.cellN rfl rfl rfl (by first | exact .head | exact .tail .head | exact .tail (.tail .head) | exact .tail (.tail (.tail .head)) | exact .tail (.tail (.tail (.tail .head))) | exact .tail (.tail (.tail (.tail (.tail .head)))) | exact .tail (.tail (.tail (.tail (.tail (.tail .head)))))) (by first | assumption | exact Cs.take rfl) (RVs.tmp rfl RVs.nil)) rfl ?_)
    exact ⟨rfl, [], H.fr, by simp⟩
end Go.Proofs.Ythidohdnaeboaaa
