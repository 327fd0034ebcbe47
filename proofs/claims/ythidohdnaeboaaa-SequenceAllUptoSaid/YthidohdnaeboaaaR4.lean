/- Walks: the reference's can, Ends, Submit. -/
import Derived.Test.YthidohdnaeboaaaR3
import Derived.Test.YthidohdnaeboaaaO5
namespace Go.Proofs.Ythidohdnaeboaaa
open Go
set_option maxRecDepth 20000
set_option maxHeartbeats 2000000
attribute [local irreducible] Run Ops Fn Draw Draw2 PureOp StepZ

theorem can_any (z : World) (d c : Nat) (n last : Int) (l : List Tk) (V : Value) (xs : List Int) (h : ROrd z d c n last l) (hV : Ints z V xs) (hxd : 0 < xs.length → ∀ b off m cap, V = .slice (some ⟨b, off, none⟩) m cap → b ≠ d) :
    Fn env.P 53 [.pointer (some ⟨d, 0, none⟩), V] z fun v w' => v = .bool (decide (canL n xs)) ∧ Fr z w' [] := by
  obtain ⟨v, ho, _⟩ := h
  obtain ⟨xa, xcap, xb, xoff, xcs, xT, xfz, rfl, k2, k3, k4, k5⟩ := hV
  have H := (Holds.start z []).add false ho (by simp) (by simp)
  have HF := Try.func53; refine Fn.enter Try.func53 Try.ntmps53 rfl rfl rfl ?_
  refine Run.seq ?_
  (refine Run.region ?_; intro K hK)
  refine Ops.pure H (X.assign rfl) rfl rfl rfl ?_
  (refine Ops.nil (hK _ _ ?_); clear hK K)
  refine Run.seq ?_
  refine Run.seq ?_
  (refine Run.region ?_; intro K hK)
  refine Ops.pure H (X.assign rfl) rfl rfl rfl ?_
  (refine Ops.nil (hK _ _ ?_); clear hK K)
  refine Run.block ?_
  refine Run.rounds (fun (x : Nat) => [(0, .pointer (some ⟨d, 0, none⟩)), (1, .slice xa xs.length xcap), (5, .int .i64 (x : Nat))]) (fun x w' => Fr z w' [] ∧ x ≤ xs.length ∧ ∀ j, j < x → placeOK n xs j) (fun x => xs.length - x) 0 (by repeat (first | exact trivial | refine ⟨rfl, ?_⟩)) ⟨Fr.refl _ _, by omega, by intro j hj; omega⟩ ?_
  rintro x w1 ⟨hf1, hxl, hx⟩ IH
  clear H
  have H := (Holds.start w1 []).add false (hf1.get ho (by simp)) (by simp) (by simp)
  by_cases hlt : x < xs.length
  · obtain ⟨rfl, k6⟩ := k4 (by omega)
    have hc := k5.at1 hlt
    have hg := getD_get hlt
    replace H := H.add false (hf1.get k6 (by simp)) (by simpa using hxd (by omega) _ _ _ _ rfl) (by simp)
    have hnc : ¬ placeOK n xs x → decide (canL n xs) = false := fun hn => decide_eq_false (fun hcan => hn (hcan.2 x hlt))
    rcases x with _ | y
    · refine Run.seq ?_
      refine Run.seq ?_
      (refine Run.region ?_; intro K hK)
      refine Ops.pure H (X.move rfl) rfl rfl rfl ?_
      refine Ops.pure H (X.move rfl) rfl rfl rfl ?_
      refine Ops.pure H (X.len_slice rfl rfl rfl) rfl rfl rfl ?_
      refine Ops.pure H (X.cmp rfl rfl rfl) rfl rfl rfl ?_
      (refine Ops.nil (hK _ _ ?_); clear hK K)
      refine Run.cond_dec rfl (fun h9 => ?x0) (fun h9 => ?y0)
      case' y0 => exfalso; omega
      case' x0 =>
        refine Run.skip ?_
        refine Run.seq ?_
        refine Run.block ?_
        refine Run.seq ?_
        (refine Run.draw H [] [0, 1, 2, 3, 4, 5, 6, 7, 8, 9, 10, 11, 12, 13, 14, 15, 16, 17, 18, 19, 20, 21, 22, 23, 24, 25, 26, 27, 28, 29, 30, 31] ?_; clear H; intro K hK w H)
        refine Draw.take0 rfl (X.move rfl) rfl rfl rfl (by decide +kernel) ?_
        refine Draw.take0 rfl (X.move rfl) rfl rfl rfl (by decide +kernel) ?_
        refine Draw.take0 rfl (X.indexAddr rfl rfl (by omega) rfl rfl rfl rfl) rfl rfl rfl (by decide +kernel) ?_
        refine Draw.take rfl (X.load1 rfl rfl rfl rfl Pick.head (by assumption)) rfl rfl rfl (by decide +kernel) ?_
        refine Draw.take0 rfl (X.cmp rfl rfl rfl) rfl rfl rfl (by decide +kernel) ?_
        refine Draw.take0 rfl (X.move rfl) rfl rfl rfl (by decide +kernel) ?_
        refine Draw.split_dec rfl rfl rfl (fun h18 => ?x1) (fun h18 => ?y1)
        case' y1 =>
          refine Draw.take0 rfl (X.move rfl) rfl rfl rfl (by decide +kernel) ?_
          refine Draw.take0 rfl (X.move rfl) rfl rfl rfl (by decide +kernel) ?_
          refine Draw.take0 rfl (X.indexAddr rfl rfl (by omega) rfl rfl rfl rfl) rfl rfl rfl (by decide +kernel) ?_
          refine Draw.take rfl (X.load1 rfl rfl rfl rfl Pick.head (by assumption)) rfl rfl rfl (by decide +kernel) ?_
          refine Draw.take0 rfl (X.move rfl) rfl rfl rfl (by decide +kernel) ?_
          refine Draw.take0 rfl (X.nilCheck rfl) rfl rfl rfl (by decide +kernel) ?_
          refine Draw.take0 rfl (X.fieldAddr rfl rfl rfl rfl rfl rfl) rfl rfl rfl (by decide +kernel) ?_
          refine Draw.take rfl (X.load1 rfl rfl rfl rfl (.tail .head) rfl) rfl rfl rfl (by decide +kernel) ?_
          refine Draw.take0 rfl (X.cmp rfl rfl rfl) rfl rfl rfl (by decide +kernel) ?_
          refine Draw.take0 rfl (X.pick_f rfl rfl) rfl rfl rfl (by decide +kernel) ?_
          refine Draw.take0 rfl (X.move rfl) rfl rfl rfl (by decide +kernel) ?_
          refine Draw.split_dec rfl rfl rfl (fun h29 => ?x2) (fun h29 => ?y2)
          case' y2 =>
            refine Draw.take0 rfl (X.move rfl) rfl rfl rfl (by decide +kernel) ?_
            refine Draw.take0 rfl (X.cmp rfl rfl rfl) rfl rfl rfl (by decide +kernel) ?_
            refine Draw.take0 rfl (X.move rfl) rfl rfl rfl (by decide +kernel) ?_
            refine Draw.pass rfl rfl rfl rfl (by decide +kernel) ?_
            refine Draw.pass rfl rfl rfl rfl (by decide +kernel) ?_
            refine Draw.pass rfl rfl rfl rfl (by decide +kernel) ?_
            refine Draw.pass rfl rfl rfl rfl (by decide +kernel) ?_
            refine Draw.pass rfl rfl rfl rfl (by decide +kernel) ?_
            refine Draw.pass rfl rfl rfl rfl (by decide +kernel) ?_
            refine Draw.pass rfl rfl rfl rfl (by decide +kernel) ?_
            refine Draw.pass rfl rfl rfl rfl (by decide +kernel) ?_
            refine Draw.pass rfl rfl rfl rfl (by decide +kernel) ?_
            refine Draw.pass rfl rfl rfl rfl (by decide +kernel) ?_
            refine Draw.take0 rfl (X.pick_f rfl rfl) rfl rfl rfl (by decide +kernel) ?_
            refine Draw.take0 rfl (X.pick_f rfl rfl) rfl rfl rfl (by decide +kernel) ?_
            (refine Draw.done (by decide +kernel) (hK _ _ ?_); clear hK K)
            refine Run.cond_false rfl ?_
            refine Run.skip ?_
            refine Run.inBlock ?_
            (refine Run.region ?_; intro K hK)
            refine Ops.pure H (X.move rfl) rfl rfl rfl ?_
            refine Ops.pure H (X.succ rfl rfl (by omega)) rfl rfl rfl ?_
            refine Ops.pure H (X.assign rfl) rfl rfl rfl ?_
            (refine Ops.nil (hK _ _ ?_); clear hK K)
          case' x2 =>
            refine Draw.pass rfl rfl rfl rfl (by decide +kernel) ?_
            refine Draw.pass rfl rfl rfl rfl (by decide +kernel) ?_
            refine Draw.pass rfl rfl rfl rfl (by decide +kernel) ?_
            refine Draw.pass rfl rfl rfl rfl (by decide +kernel) ?_
            refine Draw.pass rfl rfl rfl rfl (by decide +kernel) ?_
            refine Draw.pass rfl rfl rfl rfl (by decide +kernel) ?_
            refine Draw.pass rfl rfl rfl rfl (by decide +kernel) ?_
            refine Draw.pass rfl rfl rfl rfl (by decide +kernel) ?_
            refine Draw.pass rfl rfl rfl rfl (by decide +kernel) ?_
            refine Draw.pass rfl rfl rfl rfl (by decide +kernel) ?_
            refine Draw.pass rfl rfl rfl rfl (by decide +kernel) ?_
            refine Draw.pass rfl rfl rfl rfl (by decide +kernel) ?_
            refine Draw.pass rfl rfl rfl rfl (by decide +kernel) ?_
            refine Draw.pass rfl rfl rfl rfl (by decide +kernel) ?_
            refine Draw.take0 rfl (X.pick_t rfl rfl) rfl rfl rfl (by decide +kernel) ?_
            (refine Draw.done (by decide +kernel) (hK _ _ ?_); clear hK K)
            refine Run.cond_true rfl ?_
            refine Run.seq ?_
            (refine Run.region ?_; intro K hK)
            refine Ops.pure H (X.assign rfl) rfl rfl rfl ?_
            (refine Ops.nil (hK _ _ ?_); clear hK K)
        case' x1 =>
          refine Draw.pass rfl rfl rfl rfl (by decide +kernel) ?_
          refine Draw.pass rfl rfl rfl rfl (by decide +kernel) ?_
          refine Draw.pass rfl rfl rfl rfl (by decide +kernel) ?_
          refine Draw.pass rfl rfl rfl rfl (by decide +kernel) ?_
          refine Draw.pass rfl rfl rfl rfl (by decide +kernel) ?_
          refine Draw.pass rfl rfl rfl rfl (by decide +kernel) ?_
          refine Draw.pass rfl rfl rfl rfl (by decide +kernel) ?_
          refine Draw.pass rfl rfl rfl rfl (by decide +kernel) ?_
          refine Draw.pass rfl rfl rfl rfl (by decide +kernel) ?_
          refine Draw.take0 rfl (X.pick_t rfl rfl) rfl rfl rfl (by decide +kernel) ?_
          refine Draw.take0 rfl (X.move rfl) rfl rfl rfl (by decide +kernel) ?_
          refine Draw.pass rfl rfl rfl rfl (by decide +kernel) ?_
          refine Draw.pass rfl rfl rfl rfl (by decide +kernel) ?_
          refine Draw.pass rfl rfl rfl rfl (by decide +kernel) ?_
          refine Draw.pass rfl rfl rfl rfl (by decide +kernel) ?_
          refine Draw.pass rfl rfl rfl rfl (by decide +kernel) ?_
          refine Draw.pass rfl rfl rfl rfl (by decide +kernel) ?_
          refine Draw.pass rfl rfl rfl rfl (by decide +kernel) ?_
          refine Draw.pass rfl rfl rfl rfl (by decide +kernel) ?_
          refine Draw.pass rfl rfl rfl rfl (by decide +kernel) ?_
          refine Draw.pass rfl rfl rfl rfl (by decide +kernel) ?_
          refine Draw.pass rfl rfl rfl rfl (by decide +kernel) ?_
          refine Draw.pass rfl rfl rfl rfl (by decide +kernel) ?_
          refine Draw.pass rfl rfl rfl rfl (by decide +kernel) ?_
          refine Draw.pass rfl rfl rfl rfl (by decide +kernel) ?_
          refine Draw.take0 rfl (X.pick_t rfl rfl) rfl rfl rfl (by decide +kernel) ?_
          (refine Draw.done (by decide +kernel) (hK _ _ ?_); clear hK K)
          refine Run.cond_true rfl ?_
          refine Run.seq ?_
          (refine Run.region ?_; intro K hK)
          refine Ops.pure H (X.assign rfl) rfl rfl rfl ?_
          (refine Ops.nil (hK _ _ ?_); clear hK K)
      · (first | refine Fn.ret1 HF rfl rfl ?_ | refine Fn.ret2 HF rfl rfl rfl ?_ | refine Fn.ret3 HF rfl rfl rfl rfl ?_ | refine Fn.ret0 HF rfl ?_ | refine Fn.fin0 HF rfl ?_ | refine Fn.retG (E := env) HF rfl H (by first | exact RVs.cellN rfl rfl rfl (by first | exact .head | exact .tail .head | exact .tail (.tail .head) | exact .tail (.tail (.tail .head)) | exact .tail (.tail (.tail (.tail .head))) | exact .tail (.tail (.tail (.tail (.tail .head)))) | exact .tail (.tail (.tail (.tail (.tail (.tail .head)))))) (by first | assumption | exact Cs.take rfl) RVs.nil | exact RVs.cellN rfl rfl rfl (by first | exact .head | exact .tail .head | exact .tail (.tail .head) | exact .tail (.tail (.tail .head)) | exact .tail (.tail (.tail (.tail .head))) | exact .tail (.tail (.tail (.tail (.tail .head)))) | exact .tail (.tail (.tail (.tail (.tail (.tail .head)))))) (by first | assumption | exact Cs.take rfl) (RVs.tmp rfl RVs.nil)) rfl ?_)
        exact ⟨by rw [hnc (fun hp => by have := hp.1; rw [hg] at this; omega)], hf1.then H.fr⟩
      · (first | refine Fn.ret1 HF rfl rfl ?_ | refine Fn.ret2 HF rfl rfl rfl ?_ | refine Fn.ret3 HF rfl rfl rfl rfl ?_ | refine Fn.ret0 HF rfl ?_ | refine Fn.fin0 HF rfl ?_ | refine Fn.retG (E := env) HF rfl H (by first | exact RVs.cellN rfl rfl rfl (by first | exact .head | exact .tail .head | exact .tail (.tail .head) | exact .tail (.tail (.tail .head)) | exact .tail (.tail (.tail (.tail .head))) | exact .tail (.tail (.tail (.tail (.tail .head)))) | exact .tail (.tail (.tail (.tail (.tail (.tail .head)))))) (by first | assumption | exact Cs.take rfl) RVs.nil | exact RVs.cellN rfl rfl rfl (by first | exact .head | exact .tail .head | exact .tail (.tail .head) | exact .tail (.tail (.tail .head)) | exact .tail (.tail (.tail (.tail .head))) | exact .tail (.tail (.tail (.tail (.tail .head)))) | exact .tail (.tail (.tail (.tail (.tail (.tail .head)))))) (by first | assumption | exact Cs.take rfl) (RVs.tmp rfl RVs.nil)) rfl ?_)
        exact ⟨by rw [hnc (fun hp => by have := hp.1; rw [hg] at this; omega)], hf1.then H.fr⟩
      · refine (IH 1 _ (by omega) ⟨hf1.then H.fr, by omega, fun j hj => ?_⟩).weak (by repeat (first | exact trivial | refine ⟨rfl, ?_⟩))
        obtain rfl : j = 0 := by omega
        exact ⟨by rw [hg]; omega, fun h => by omega⟩
    · have hy : y < xs.length := by omega
      have hcy := k5.at1 hy
      have hgy := getD_get hy
      refine Run.seq ?_
      refine Run.seq ?_
      (refine Run.region ?_; intro K hK)
      refine Ops.pure H (X.move rfl) rfl rfl rfl ?_
      refine Ops.pure H (X.move rfl) rfl rfl rfl ?_
      refine Ops.pure H (X.len_slice rfl rfl rfl) rfl rfl rfl ?_
      refine Ops.pure H (X.cmp rfl rfl rfl) rfl rfl rfl ?_
      (refine Ops.nil (hK _ _ ?_); clear hK K)
      refine Run.cond_dec rfl (fun h9 => ?x3) (fun h9 => ?y3)
      case' y3 => exfalso; omega
      case' x3 =>
        refine Run.skip ?_
        refine Run.seq ?_
        refine Run.block ?_
        refine Run.seq ?_
        (refine Run.draw H [] [0, 1, 2, 3, 4, 5, 6, 7, 8, 9, 10, 11, 12, 13, 14, 15, 16, 17, 18, 19, 20, 21, 22, 23, 24, 25, 26, 27, 28, 29, 30, 31] ?_; clear H; intro K hK w H)
        refine Draw.take0 rfl (X.move rfl) rfl rfl rfl (by decide +kernel) ?_
        refine Draw.take0 rfl (X.move rfl) rfl rfl rfl (by decide +kernel) ?_
        refine Draw.take0 rfl (X.indexAddr rfl rfl (by omega) rfl rfl rfl rfl) rfl rfl rfl (by decide +kernel) ?_
        refine Draw.take rfl (X.load1 rfl rfl rfl rfl Pick.head (by assumption)) rfl rfl rfl (by decide +kernel) ?_
        refine Draw.take0 rfl (X.cmp rfl rfl rfl) rfl rfl rfl (by decide +kernel) ?_
        refine Draw.take0 rfl (X.move rfl) rfl rfl rfl (by decide +kernel) ?_
        refine Draw.split_dec rfl rfl rfl (fun h18 => ?x4) (fun h18 => ?y4)
        case' y4 =>
          refine Draw.take0 rfl (X.move rfl) rfl rfl rfl (by decide +kernel) ?_
          refine Draw.take0 rfl (X.move rfl) rfl rfl rfl (by decide +kernel) ?_
          refine Draw.take0 rfl (X.indexAddr rfl rfl (by omega) rfl rfl rfl rfl) rfl rfl rfl (by decide +kernel) ?_
          refine Draw.take rfl (X.load1 rfl rfl rfl rfl Pick.head (by assumption)) rfl rfl rfl (by decide +kernel) ?_
          refine Draw.take0 rfl (X.move rfl) rfl rfl rfl (by decide +kernel) ?_
          refine Draw.take0 rfl (X.nilCheck rfl) rfl rfl rfl (by decide +kernel) ?_
          refine Draw.take0 rfl (X.fieldAddr rfl rfl rfl rfl rfl rfl) rfl rfl rfl (by decide +kernel) ?_
          refine Draw.take rfl (X.load1 rfl rfl rfl rfl (.tail .head) rfl) rfl rfl rfl (by decide +kernel) ?_
          refine Draw.take0 rfl (X.cmp rfl rfl rfl) rfl rfl rfl (by decide +kernel) ?_
          refine Draw.take0 rfl (X.pick_f rfl rfl) rfl rfl rfl (by decide +kernel) ?_
          refine Draw.take0 rfl (X.move rfl) rfl rfl rfl (by decide +kernel) ?_
          refine Draw.split_dec rfl rfl rfl (fun h29 => ?x5) (fun h29 => ?y5)
          case' y5 =>
            refine Draw.take0 rfl (X.move rfl) rfl rfl rfl (by decide +kernel) ?_
            refine Draw.take0 rfl (X.cmp rfl rfl rfl) rfl rfl rfl (by decide +kernel) ?_
            refine Draw.take0 rfl (X.move rfl) rfl rfl rfl (by decide +kernel) ?_
            refine Draw.split_dec rfl rfl rfl (fun h32 => ?x6) (fun h32 => ?y6)
            case' y6 => exfalso; omega
            case' x6 =>
              refine Draw.take0 rfl (X.move rfl) rfl rfl rfl (by decide +kernel) ?_
              refine Draw.take0 rfl (X.move rfl) rfl rfl rfl (by decide +kernel) ?_
              refine Draw.take0 rfl (X.indexAddr rfl rfl (by omega) rfl rfl rfl rfl) rfl rfl rfl (by decide +kernel) ?_
              refine Draw.take rfl (X.load1 rfl rfl rfl rfl Pick.head (by assumption)) rfl rfl rfl (by decide +kernel) ?_
              refine Draw.take0 rfl (X.move rfl) rfl rfl rfl (by decide +kernel) ?_
              refine Draw.take0 rfl (X.move rfl) rfl rfl rfl (by decide +kernel) ?_
              refine Draw.take0 rfl (X.pred rfl rfl (by omega)) rfl rfl rfl (by decide +kernel) ?_
              refine Draw.take0 rfl (X.indexAddr rfl rfl (by omega) rfl rfl rfl rfl) rfl rfl rfl (by decide +kernel) ?_
              refine Draw.take rfl (X.load1 rfl rfl rfl rfl Pick.head (by assumption)) rfl rfl rfl (by decide +kernel) ?_
              refine Draw.take0 rfl (X.cmp rfl rfl rfl) rfl rfl rfl (by decide +kernel) ?_
              refine Draw.take0 rfl (X.pick_t rfl rfl) rfl rfl rfl (by decide +kernel) ?_
              refine Draw.take0 rfl (X.pick_f rfl rfl) rfl rfl rfl (by decide +kernel) ?_
              (refine Draw.done (by decide +kernel) (hK _ _ ?_); clear hK K)
              refine Run.cond_dec rfl (fun h43 => ?x7) (fun h43 => ?y7)
              case' y7 =>
                refine Run.skip ?_
                refine Run.inBlock ?_
                (refine Run.region ?_; intro K hK)
                refine Ops.pure H (X.move rfl) rfl rfl rfl ?_
                refine Ops.pure H (X.succ rfl rfl (by omega)) rfl rfl rfl ?_
                refine Ops.pure H (X.assign rfl) rfl rfl rfl ?_
                (refine Ops.nil (hK _ _ ?_); clear hK K)
              case' x7 =>
                refine Run.seq ?_
                (refine Run.region ?_; intro K hK)
                refine Ops.pure H (X.assign rfl) rfl rfl rfl ?_
                (refine Ops.nil (hK _ _ ?_); clear hK K)
          case' x5 =>
            refine Draw.pass rfl rfl rfl rfl (by decide +kernel) ?_
            refine Draw.pass rfl rfl rfl rfl (by decide +kernel) ?_
            refine Draw.pass rfl rfl rfl rfl (by decide +kernel) ?_
            refine Draw.pass rfl rfl rfl rfl (by decide +kernel) ?_
            refine Draw.pass rfl rfl rfl rfl (by decide +kernel) ?_
            refine Draw.pass rfl rfl rfl rfl (by decide +kernel) ?_
            refine Draw.pass rfl rfl rfl rfl (by decide +kernel) ?_
            refine Draw.pass rfl rfl rfl rfl (by decide +kernel) ?_
            refine Draw.pass rfl rfl rfl rfl (by decide +kernel) ?_
            refine Draw.pass rfl rfl rfl rfl (by decide +kernel) ?_
            refine Draw.pass rfl rfl rfl rfl (by decide +kernel) ?_
            refine Draw.pass rfl rfl rfl rfl (by decide +kernel) ?_
            refine Draw.pass rfl rfl rfl rfl (by decide +kernel) ?_
            refine Draw.pass rfl rfl rfl rfl (by decide +kernel) ?_
            refine Draw.take0 rfl (X.pick_t rfl rfl) rfl rfl rfl (by decide +kernel) ?_
            (refine Draw.done (by decide +kernel) (hK _ _ ?_); clear hK K)
            refine Run.cond_true rfl ?_
            refine Run.seq ?_
            (refine Run.region ?_; intro K hK)
            refine Ops.pure H (X.assign rfl) rfl rfl rfl ?_
            (refine Ops.nil (hK _ _ ?_); clear hK K)
        case' x4 =>
          refine Draw.pass rfl rfl rfl rfl (by decide +kernel) ?_
          refine Draw.pass rfl rfl rfl rfl (by decide +kernel) ?_
          refine Draw.pass rfl rfl rfl rfl (by decide +kernel) ?_
          refine Draw.pass rfl rfl rfl rfl (by decide +kernel) ?_
          refine Draw.pass rfl rfl rfl rfl (by decide +kernel) ?_
          refine Draw.pass rfl rfl rfl rfl (by decide +kernel) ?_
          refine Draw.pass rfl rfl rfl rfl (by decide +kernel) ?_
          refine Draw.pass rfl rfl rfl rfl (by decide +kernel) ?_
          refine Draw.pass rfl rfl rfl rfl (by decide +kernel) ?_
          refine Draw.take0 rfl (X.pick_t rfl rfl) rfl rfl rfl (by decide +kernel) ?_
          refine Draw.take0 rfl (X.move rfl) rfl rfl rfl (by decide +kernel) ?_
          refine Draw.pass rfl rfl rfl rfl (by decide +kernel) ?_
          refine Draw.pass rfl rfl rfl rfl (by decide +kernel) ?_
          refine Draw.pass rfl rfl rfl rfl (by decide +kernel) ?_
          refine Draw.pass rfl rfl rfl rfl (by decide +kernel) ?_
          refine Draw.pass rfl rfl rfl rfl (by decide +kernel) ?_
          refine Draw.pass rfl rfl rfl rfl (by decide +kernel) ?_
          refine Draw.pass rfl rfl rfl rfl (by decide +kernel) ?_
          refine Draw.pass rfl rfl rfl rfl (by decide +kernel) ?_
          refine Draw.pass rfl rfl rfl rfl (by decide +kernel) ?_
          refine Draw.pass rfl rfl rfl rfl (by decide +kernel) ?_
          refine Draw.pass rfl rfl rfl rfl (by decide +kernel) ?_
          refine Draw.pass rfl rfl rfl rfl (by decide +kernel) ?_
          refine Draw.pass rfl rfl rfl rfl (by decide +kernel) ?_
          refine Draw.pass rfl rfl rfl rfl (by decide +kernel) ?_
          refine Draw.take0 rfl (X.pick_t rfl rfl) rfl rfl rfl (by decide +kernel) ?_
          (refine Draw.done (by decide +kernel) (hK _ _ ?_); clear hK K)
          refine Run.cond_true rfl ?_
          refine Run.seq ?_
          (refine Run.region ?_; intro K hK)
          refine Ops.pure H (X.assign rfl) rfl rfl rfl ?_
          (refine Ops.nil (hK _ _ ?_); clear hK K)
      · (first | refine Fn.ret1 HF rfl rfl ?_ | refine Fn.ret2 HF rfl rfl rfl ?_ | refine Fn.ret3 HF rfl rfl rfl rfl ?_ | refine Fn.ret0 HF rfl ?_ | refine Fn.fin0 HF rfl ?_ | refine Fn.retG (E := env) HF rfl H (by first | exact RVs.cellN rfl rfl rfl (by first | exact .head | exact .tail .head | exact .tail (.tail .head) | exact .tail (.tail (.tail .head)) | exact .tail (.tail (.tail (.tail .head))) | exact .tail (.tail (.tail (.tail (.tail .head)))) | exact .tail (.tail (.tail (.tail (.tail (.tail .head)))))) (by first | assumption | exact Cs.take rfl) RVs.nil | exact RVs.cellN rfl rfl rfl (by first | exact .head | exact .tail .head | exact .tail (.tail .head) | exact .tail (.tail (.tail .head)) | exact .tail (.tail (.tail (.tail .head))) | exact .tail (.tail (.tail (.tail (.tail .head)))) | exact .tail (.tail (.tail (.tail (.tail (.tail .head)))))) (by first | assumption | exact Cs.take rfl) (RVs.tmp rfl RVs.nil)) rfl ?_)
        exact ⟨by rw [hnc (fun hp => by have := hp.1; rw [hg] at this; omega)], hf1.then H.fr⟩
      · (first | refine Fn.ret1 HF rfl rfl ?_ | refine Fn.ret2 HF rfl rfl rfl ?_ | refine Fn.ret3 HF rfl rfl rfl rfl ?_ | refine Fn.ret0 HF rfl ?_ | refine Fn.fin0 HF rfl ?_ | refine Fn.retG (E := env) HF rfl H (by first | exact RVs.cellN rfl rfl rfl (by first | exact .head | exact .tail .head | exact .tail (.tail .head) | exact .tail (.tail (.tail .head)) | exact .tail (.tail (.tail (.tail .head))) | exact .tail (.tail (.tail (.tail (.tail .head)))) | exact .tail (.tail (.tail (.tail (.tail (.tail .head)))))) (by first | assumption | exact Cs.take rfl) RVs.nil | exact RVs.cellN rfl rfl rfl (by first | exact .head | exact .tail .head | exact .tail (.tail .head) | exact .tail (.tail (.tail .head)) | exact .tail (.tail (.tail (.tail .head))) | exact .tail (.tail (.tail (.tail (.tail .head)))) | exact .tail (.tail (.tail (.tail (.tail (.tail .head)))))) (by first | assumption | exact Cs.take rfl) (RVs.tmp rfl RVs.nil)) rfl ?_)
        exact ⟨by rw [hnc (fun hp => by have := hp.1; rw [hg] at this; omega)], hf1.then H.fr⟩
      · (first | refine Fn.ret1 HF rfl rfl ?_ | refine Fn.ret2 HF rfl rfl rfl ?_ | refine Fn.ret3 HF rfl rfl rfl rfl ?_ | refine Fn.ret0 HF rfl ?_ | refine Fn.fin0 HF rfl ?_ | refine Fn.retG (E := env) HF rfl H (by first | exact RVs.cellN rfl rfl rfl (by first | exact .head | exact .tail .head | exact .tail (.tail .head) | exact .tail (.tail (.tail .head)) | exact .tail (.tail (.tail (.tail .head))) | exact .tail (.tail (.tail (.tail (.tail .head)))) | exact .tail (.tail (.tail (.tail (.tail (.tail .head)))))) (by first | assumption | exact Cs.take rfl) RVs.nil | exact RVs.cellN rfl rfl rfl (by first | exact .head | exact .tail .head | exact .tail (.tail .head) | exact .tail (.tail (.tail .head)) | exact .tail (.tail (.tail (.tail .head))) | exact .tail (.tail (.tail (.tail (.tail .head)))) | exact .tail (.tail (.tail (.tail (.tail (.tail .head)))))) (by first | assumption | exact Cs.take rfl) (RVs.tmp rfl RVs.nil)) rfl ?_)
        exact ⟨by rw [hnc (fun hp => by have := hp.2 (by omega); rw [hg, Nat.add_sub_cancel, hgy] at this; omega)], hf1.then H.fr⟩
      · refine (IH (y + 1 + 1) _ (by omega) ⟨hf1.then H.fr, by omega, fun j hj => ?_⟩).weak (by repeat (first | exact trivial | refine ⟨rfl, ?_⟩))
        rcases Nat.lt_succ_iff_lt_or_eq.1 hj with hj | rfl
        · exact hx j hj
        · refine ⟨by rw [hg]; omega, fun _ => ?_⟩
          rw [hg, Nat.add_sub_cancel, hgy]
          omega
  · have hall : ∀ i, i < xs.length → placeOK n xs i := fun i hi => hx i (by omega)
    refine Run.seq ?_
    refine Run.seq ?_
    (refine Run.region ?_; intro K hK)
    refine Ops.pure H (X.move rfl) rfl rfl rfl ?_
    refine Ops.pure H (X.move rfl) rfl rfl rfl ?_
    refine Ops.pure H (X.len_slice rfl rfl rfl) rfl rfl rfl ?_
    refine Ops.pure H (X.cmp rfl rfl rfl) rfl rfl rfl ?_
    (refine Ops.nil (hK _ _ ?_); clear hK K)
    refine Run.cond_dec rfl (fun h9 => ?x8) (fun h9 => ?y8)
    case' y8 =>
      refine Run.exit rfl ?_
      refine Run.seq ?_
      (refine Run.region ?_; intro K hK)
      refine Ops.pure H (X.move rfl) rfl rfl rfl ?_
      refine Ops.pure H (X.len_slice rfl rfl rfl) rfl rfl rfl ?_
      refine Ops.pure H (X.cmp rfl rfl rfl) rfl rfl rfl ?_
      refine Ops.pure H (X.assign rfl) rfl rfl rfl ?_
      (refine Ops.nil (hK _ _ ?_); clear hK K)
    case' x8 => exfalso; omega
    (first | refine Fn.ret1 HF rfl rfl ?_ | refine Fn.ret2 HF rfl rfl rfl ?_ | refine Fn.ret3 HF rfl rfl rfl rfl ?_ | refine Fn.ret0 HF rfl ?_ | refine Fn.fin0 HF rfl ?_ | refine Fn.retG (E := env) HF rfl H (by first | exact RVs.cellN rfl rfl rfl (by first | exact .head | exact .tail .head | exact .tail (.tail .head) | exact .tail (.tail (.tail .head)) | exact .tail (.tail (.tail (.tail .head))) | exact .tail (.tail (.tail (.tail (.tail .head)))) | exact .tail (.tail (.tail (.tail (.tail (.tail .head)))))) (by first | assumption | exact Cs.take rfl) RVs.nil | exact RVs.cellN rfl rfl rfl (by first | exact .head | exact .tail .head | exact .tail (.tail .head) | exact .tail (.tail (.tail .head)) | exact .tail (.tail (.tail (.tail .head))) | exact .tail (.tail (.tail (.tail (.tail .head)))) | exact .tail (.tail (.tail (.tail (.tail (.tail .head)))))) (by first | assumption | exact Cs.take rfl) (RVs.tmp rfl RVs.nil)) rfl ?_)
    refine ⟨?_, hf1.then H.fr⟩
    congr 1
    rw [decide_eq_decide]
    exact ⟨fun h => ⟨by omega, hall⟩, fun h => by have := h.1; omega⟩
theorem Cs.move {cs cs' us : List Value} {N j k : Nat} (h : Cs cs' 0 (N * 4) us) (hj : j < N) (he : ∀ r, r < 4 → us[j * 4 + r]? = cs[k * 4 + r]?) {vs : List Value} (hv : Cs cs (0 + k * 4) 4 vs) : Cs cs' (0 + j * 4) 4 vs := by
  refine Cs.ofGet _ _ _ hv.length fun r hr => ?_
  rw [← hv.toGet hr, Nat.add_assoc, h.toGet (by omega), he r hr, Nat.zero_add]
theorem cells_one {w : World} {cs : List Value} {l : List Tk} (hall : ∀ i t, l[i]? = some t → TkAt w cs i t) {j : Nat} {v : Value} (hj : j < l.length * 4) (h : cs[j]? = some v) : v.oneCell' = true := by
  obtain ⟨u, b, hc, ⟨_, _, rfl, _⟩, _⟩ := hall (j / 4) _ (some_at (by omega))
  have h2 := hc.toGet (j := j % 4) (by omega)
  rw [show 0 + j / 4 * 4 + j % 4 = j by omega, h] at h2
  have h3 : j % 4 < 4 := by omega
  generalize j % 4 = q at h2 h3
  have : q = 0 ∨ q = 1 ∨ q = 2 ∨ q = 3 := by omega
  rcases this with rfl | rfl | rfl | rfl <;> (simp [tkC] at h2; subst h2; rfl)
theorem rends_any (z : World) (d c : Nat) (n last id : Int) (l : List Tk) (done : Bool) (h : ROrd z d c n last l) (hl : l.length ≤ 4096) :
    Fn env.P 37 [.pointer (some ⟨d, 0, none⟩), .int .u64 id, .bool done] z fun v w' => v = .int .i64 (endsE l id done) ∧ Fr z w' [d] ∧ ∃ c', ROrd w' d c' n last (endsL l id done) ∧ (c' = c ∨ z.heap.size ≤ c') := by
  have h' := h
  obtain ⟨v, ho, a, cap, cs, rfl, hc1, hc2, hac, hall⟩ := h
  have H := (Holds.start z []).add false ho (by simp) (by simp)
  have HF := Try.func37; refine Fn.enter Try.func37 Try.ntmps37 rfl rfl rfl ?_
  refine Run.seq ?_
  (refine Run.region ?_; intro K hK)
  refine Ops.pure H (X.assign rfl) rfl rfl rfl ?_
  (refine Ops.nil (hK _ _ ?_); clear hK K)
  refine Run.seq ?_
  (refine Run.region ?_; intro K hK)
  refine Ops.pure H (X.move rfl) rfl rfl rfl ?_
  refine Ops.pure H (X.move rfl) rfl rfl rfl ?_
  refine Ops.eff rfl (Y.call rfl rfl (by first | assumption | decide +kernel) rfl (rfind_any _ d c n last l id h' hl) rfl ?_)
  rintro v w1 ⟨rfl, hf1⟩
  replace H := H.ext hf1
  rcases fidx_cases (fun i => decide ((l.getD i tk0).id = id)) l.length with ⟨i, hi, _, _, he⟩ | ⟨_, he⟩
  · have he' : findL l id = i := he
    rw [he']
    obtain ⟨rfl, hcc⟩ := tks_pos hac hc1 (Fr.refl _ _) (by omega)
    refine Ops.pure H (X.assign rfl) rfl rfl rfl ?_
    (refine Ops.nil (hK _ _ ?_); clear hK K)
    refine Run.seq ?_
    refine Run.seq ?_
    (refine Run.region ?_; intro K hK)
    refine Ops.pure H (X.move rfl) rfl rfl rfl ?_
    refine Ops.pure H (X.cmp rfl rfl rfl) rfl rfl rfl ?_
    (refine Ops.nil (hK _ _ ?_); clear hK K)
    refine Run.cond_false rfl ?_
    refine Run.skip ?_
    refine Run.seq ?_
    refine Run.meet (fun (_ : Nat) => [(0, .pointer (some ⟨d, 0, none⟩)), (7, .int .i64 (i : Nat))]) (fun _ w' => Fr z w' [] ∧ (done = true → mayL l i = true)) ?_ ?_
    · rintro _ w2 ⟨hf2, hm⟩
      clear H
      rcases hac with ⟨hac, _⟩ | ⟨_, _, hcl⟩
      · cases hac
      obtain ⟨m, hlm⟩ : ∃ m, l.length = i + 1 + m := ⟨l.length - (i + 1), by omega⟩
      rw [hlm] at ho hc1
      have hd2 := hf2.get ho (by simp)
      have hc2' := hf2.get hcc (by simp)
      have hdc := ne_of_ty hcc ho (by decide)
      have hdl := lt_of_at hd2
      have hcl2 := lt_of_at hc2'
      have hall2 : ∀ i t, l[i]? = some t → TkAt w2 cs i t := fun i t ht => (hall i t ht).keep hf2 (by simp)
      have H := ((Holds.start w2 [d]).add true hd2 (by simp) (by simp)).add false hc2' (by simpa using hdc) (by simp)
      refine Run.seq ?_
      (refine Run.region ?_; intro K hK)
      (refine Ops.eff rfl (Y.buildSliceO rfl rfl rfl rfl rfl rfl rfl rfl H ?_); intro b21 w H0 hb21; clear H; have H := H0; clear H0)
      refine Ops.pure H (X.move rfl) rfl rfl rfl ?_
      refine Ops.pure H (X.nilCheck rfl) rfl rfl rfl ?_
      refine Ops.pure H (X.fieldAddr rfl rfl rfl rfl rfl rfl) rfl rfl rfl ?_
      refine Ops.pure H (X.load1 rfl rfl rfl rfl (.tail (.tail .head)) rfl) rfl rfl rfl ?_
      refine Ops.pure H (X.move rfl) rfl rfl rfl ?_
      refine Ops.pure H (X.slice_h rfl rfl (by omega) rfl rfl rfl) rfl rfl rfl ?_
      have hC1 : Cs cs (0 : Nat) (i * 4) (cs.take (i * 4)) := Cs.ofGet _ _ _ (by simp; omega) (fun j hj => by simp [hj])
      refine Ops.eff rfl (Y.appendOwnB (w0 := w2) (olds := []) (news := cs.take (i * 4)) (cs := []) (sz := 4) (len := 0) (m := i) (Nat.le_refl 0) (by omega) hb21 (H.pick .head) rfl .nil rfl rfl rfl rfl rfl rfl H.fr hC1.length (Src.row H (.tail .head) hC1) rfl ?_ (by dsimp only; omega) (by omega) rfl ?_)
      · intro v hv
        obtain ⟨r, hr, e⟩ := List.getElem_of_mem hv
        have hr' : r < i * 4 := by simp at hr; omega
        rw [List.getElem_take] at e
        exact cells_one hall (j := r) (by omega) (by rw [← e]; exact List.getElem?_eq_getElem _)
      intro b8 cap8 cs8 w3 hF3 _ hK3 q1 q2 q3 q4 q5 q6
      have hd3 : w3.heap[d]? = _ := (hK3 d hdl).trans (H.pick (by first | exact .head | exact .tail .head | exact .tail (.tail .head) | exact .tail (.tail (.tail .head)) | exact .tail (.tail (.tail (.tail .head))) | exact .tail (.tail (.tail (.tail (.tail .head)))) | exact .tail (.tail (.tail (.tail (.tail (.tail .head)))))))
      have hc3 : w3.heap[c]? = _ := (hK3 c hcl2).trans (H.pick (by first | exact .head | exact .tail .head | exact .tail (.tail .head) | exact .tail (.tail (.tail .head)) | exact .tail (.tail (.tail (.tail .head))) | exact .tail (.tail (.tail (.tail (.tail .head)))) | exact .tail (.tail (.tail (.tail (.tail (.tail .head)))))))
      clear H
      have H := ((Holds.start w3 [d]).add true hd3 (by simp) (by simp)).add false hc3 (by simpa using hdc) (by simp)
      refine Ops.pure H (X.assign rfl) rfl rfl rfl ?_
      (refine Ops.nil (hK _ _ ?_); clear hK K)
      refine Run.seq ?_
      (refine Run.region ?_; intro K hK)
      refine Ops.pure H (X.move rfl) rfl rfl rfl ?_
      refine Ops.pure H (X.move rfl) rfl rfl rfl ?_
      refine Ops.pure H (X.move rfl) rfl rfl rfl ?_
      refine Ops.pure H (X.nilCheck rfl) rfl rfl rfl ?_
      refine Ops.pure H (X.fieldAddr rfl rfl rfl rfl rfl rfl) rfl rfl rfl ?_
      refine Ops.pure H (X.load1 rfl rfl rfl rfl (.tail .head) rfl) rfl rfl rfl ?_
      refine Ops.pure H (X.move rfl) rfl rfl rfl ?_
      refine Ops.pure H (X.succ rfl rfl (by omega)) rfl rfl rfl ?_
      refine Ops.pure H (X.slice_l rfl rfl (by omega) rfl rfl rfl rfl) rfl rfl rfl ?_
      simp only [show i + 1 + m - (i + 1) = m by omega]
      have hnl : ((cs.drop ((i + 1) * 4)).take (m * 4)).length = m * 4 := by simp; omega
      have hC2 : Cs cs (0 + (i + 1) * 4) (m * 4) ((cs.drop ((i + 1) * 4)).take (m * 4)) := Cs.ofGet _ _ _ hnl fun j hj => by simp [hj]
      have hsrc : Src w3 (some ⟨c, if cap = i + 1 then 0 else 0 + (i + 1) * 4, none⟩) ((cs.drop ((i + 1) * 4)).take (m * 4)) := by
        by_cases hm0 : m = 0
        · subst hm0
          simp only [Nat.zero_mul, List.take_zero]
          exact Src.nil
        · rw [if_neg (by omega)]
          exact Src.row H .head hC2
      refine Ops.eff rfl (Y.appendOwnB (w0 := w2) (S := [d]) (len := 0 + i) (m := m) (sz := 4) q1 q2 q3 q4 q5 q6 rfl rfl rfl rfl rfl rfl hF3 hnl hsrc rfl (tks_one hlm hall) (by dsimp only; omega) (by omega) rfl ?_)
      intro b9 cap9 cs9 w4 hF4 _ hK4 p1 p2 p3 p4 p5 p6
      have hd4 : w4.heap[d]? = _ := (hK4 d hdl).trans (H.pick (by first | exact .head | exact .tail .head | exact .tail (.tail .head) | exact .tail (.tail (.tail .head)) | exact .tail (.tail (.tail (.tail .head))) | exact .tail (.tail (.tail (.tail (.tail .head)))) | exact .tail (.tail (.tail (.tail (.tail (.tail .head)))))))
      clear H
      have hb9d : b9 ≠ d := by omega
      have H := ((Holds.start w4 [d]).add true hd4 (by simp) (by simp)).add false p4 (by simpa using hb9d) (by simp)
      refine Ops.pure H (X.nilCheck rfl) rfl rfl rfl ?_
      refine Ops.pure H (X.fieldAddr rfl rfl rfl rfl rfl rfl) rfl rfl rfl ?_
      (refine Ops.eff rfl (Y.store1 rfl rfl rfl rfl rfl rfl H (.tail .head) (by repeat (first | exact SetC.zero | apply SetC.succ)) ?_); intro w H0; clear H; have H := H0; clear H0)
      (refine Ops.nil (hK _ _ ?_); clear hK K)
      refine Run.seq ?_
      (refine Run.region ?_; intro K hK)
      refine Ops.pure H (X.assign rfl) rfl rfl rfl ?_
      (refine Ops.nil (hK _ _ ?_); clear hK K)
      (first | refine Fn.ret1 HF rfl rfl ?_ | refine Fn.ret2 HF rfl rfl rfl ?_ | refine Fn.ret3 HF rfl rfl rfl rfl ?_ | refine Fn.ret0 HF rfl ?_ | refine Fn.fin0 HF rfl ?_ | refine Fn.retG (E := env) HF rfl H (by first | exact RVs.cellN rfl rfl rfl (by first | exact .head | exact .tail .head | exact .tail (.tail .head) | exact .tail (.tail (.tail .head)) | exact .tail (.tail (.tail (.tail .head))) | exact .tail (.tail (.tail (.tail (.tail .head)))) | exact .tail (.tail (.tail (.tail (.tail (.tail .head)))))) (by first | assumption | exact Cs.take rfl) RVs.nil | exact RVs.cellN rfl rfl rfl (by first | exact .head | exact .tail .head | exact .tail (.tail .head) | exact .tail (.tail (.tail .head)) | exact .tail (.tail (.tail (.tail .head))) | exact .tail (.tail (.tail (.tail (.tail .head)))) | exact .tail (.tail (.tail (.tail (.tail (.tail .head)))))) (by first | assumption | exact Cs.take rfl) (RVs.tmp rfl RVs.nil)) rfl ?_)
      obtain ⟨e1, e2⟩ := ends_goes (l := l) (done := done) he' hm
      have hfa : Fr w2 _ [d] := hF4.trans H.fr (by simp) (by simp)
      have hl1 : (cs.take (i * 4)).length = i * 4 := hC1.length
      rw [e1, e2]
      refine ⟨rfl, hf2.trans hfa (by simp) (by simp), b9, ⟨_, H.pick (by first | exact .head | exact .tail .head | exact .tail (.tail .head) | exact .tail (.tail (.tail .head)) | exact .tail (.tail (.tail (.tail .head))) | exact .tail (.tail (.tail (.tail (.tail .head)))) | exact .tail (.tail (.tail (.tail (.tail (.tail .head)))))), ?_⟩, .inr (Nat.le_trans hf2.size p3)⟩
      rw [Nat.zero_add]
      refine tks_del hlm (by omega) p2 hall2 hfa (fun b hb ds hd => ?_) (H.pick (by first | exact .head | exact .tail .head | exact .tail (.tail .head) | exact .tail (.tail (.tail .head)) | exact .tail (.tail (.tail (.tail .head))) | exact .tail (.tail (.tail (.tail (.tail .head)))) | exact .tail (.tail (.tail (.tail (.tail (.tail .head))))))) p5 (fun j hj vs hv => ?_) (fun j hj hj' vs hv => ?_)
      · simp at hb
        subst hb
        exact ne_of_ty hd2 hd (by decide) rfl
      · refine p6.move (k := j) (by omega) (fun r hr => ?_) hv
        rw [List.nil_append, List.getElem?_append_left (by omega), List.getElem?_take, if_pos (by omega)]
      · refine p6.move (k := j + 1) (by omega) (fun r hr => ?_) hv
        rw [List.nil_append, List.getElem?_append_right (by omega), hl1, List.getElem?_take, if_pos (by omega), List.getElem?_drop]
        congr 1
        omega
    · intro kk go
      cases done
      · refine Run.seq ?_
        (refine Run.region ?_; intro K hK)
        refine Ops.pure H (X.move rfl) rfl rfl rfl ?_
        refine Ops.pure H (X.move rfl) rfl rfl rfl ?_
        refine Ops.pass rfl rfl rfl ?_
        refine Ops.pass rfl rfl rfl ?_
        refine Ops.pass rfl rfl rfl ?_
        refine Ops.pass rfl rfl rfl ?_
        refine Ops.pure H (X.pick_f rfl rfl) rfl rfl rfl ?_
        (refine Ops.nil (hK _ _ ?_); clear hK K)
        refine Run.cond_false rfl ?_
        refine Run.skip ?_
        exact go 0 _ _ ⟨H.fr, fun h => by cases h⟩ (by repeat (first | exact trivial | refine ⟨rfl, ?_⟩))
      · refine Run.seq ?_
        (refine Run.region ?_; intro K hK)
        refine Ops.pure H (X.move rfl) rfl rfl rfl ?_
        refine Ops.pure H (X.move rfl) rfl rfl rfl ?_
        refine Ops.pure H (X.move rfl) rfl rfl rfl ?_
        refine Ops.pure H (X.move rfl) rfl rfl rfl ?_
        refine Ops.eff rfl (Y.call rfl rfl (by first | assumption | decide +kernel) rfl (rmay_any _ d c n last l i (h'.ext H.fr) hi hl) rfl ?_)
        rintro v w3 ⟨rfl, hf3⟩
        replace H := H.ext hf3
        cases hm : mayL l i
        · refine Ops.pure H (X.not rfl) rfl rfl rfl ?_
          refine Ops.pure H (X.pick_t rfl rfl) rfl rfl rfl ?_
          (refine Ops.nil (hK _ _ ?_); clear hK K)
          refine Run.cond_true rfl ?_
          refine Run.seq ?_
          (refine Run.region ?_; intro K hK)
          refine Ops.pure H (X.assign rfl) rfl rfl rfl ?_
          (refine Ops.nil (hK _ _ ?_); clear hK K)
          (first | refine Fn.ret1 HF rfl rfl ?_ | refine Fn.ret2 HF rfl rfl rfl ?_ | refine Fn.ret3 HF rfl rfl rfl rfl ?_ | refine Fn.ret0 HF rfl ?_ | refine Fn.fin0 HF rfl ?_ | refine Fn.retG (E := env) HF rfl H (by first | exact RVs.cellN rfl rfl rfl (by first | exact .head | exact .tail .head | exact .tail (.tail .head) | exact .tail (.tail (.tail .head)) | exact .tail (.tail (.tail (.tail .head))) | exact .tail (.tail (.tail (.tail (.tail .head)))) | exact .tail (.tail (.tail (.tail (.tail (.tail .head)))))) (by first | assumption | exact Cs.take rfl) RVs.nil | exact RVs.cellN rfl rfl rfl (by first | exact .head | exact .tail .head | exact .tail (.tail .head) | exact .tail (.tail (.tail .head)) | exact .tail (.tail (.tail (.tail .head))) | exact .tail (.tail (.tail (.tail (.tail .head)))) | exact .tail (.tail (.tail (.tail (.tail (.tail .head)))))) (by first | assumption | exact Cs.take rfl) (RVs.tmp rfl RVs.nil)) rfl ?_)
          obtain ⟨e1, e2⟩ := ends_state he' hm
          rw [e1, e2]
          exact ⟨rfl, H.fr.mono (by simp), c, h'.ext H.fr, .inl rfl⟩
        · refine Ops.pure H (X.not rfl) rfl rfl rfl ?_
          refine Ops.pure H (X.pick_t rfl rfl) rfl rfl rfl ?_
          (refine Ops.nil (hK _ _ ?_); clear hK K)
          refine Run.cond_false rfl ?_
          refine Run.skip ?_
          exact go 0 _ _ ⟨H.fr, fun _ => hm⟩ (by repeat (first | exact trivial | refine ⟨rfl, ?_⟩))
  · have he' : findL l id = -1 := he
    rw [he']
    refine Ops.pure H (X.assign rfl) rfl rfl rfl ?_
    (refine Ops.nil (hK _ _ ?_); clear hK K)
    refine Run.seq ?_
    refine Run.seq ?_
    (refine Run.region ?_; intro K hK)
    refine Ops.pure H (X.move rfl) rfl rfl rfl ?_
    refine Ops.pure H (X.cmp rfl rfl rfl) rfl rfl rfl ?_
    (refine Ops.nil (hK _ _ ?_); clear hK K)
    refine Run.cond_true rfl ?_
    refine Run.seq ?_
    (refine Run.region ?_; intro K hK)
    refine Ops.pure H (X.assign rfl) rfl rfl rfl ?_
    (refine Ops.nil (hK _ _ ?_); clear hK K)
    (first | refine Fn.ret1 HF rfl rfl ?_ | refine Fn.ret2 HF rfl rfl rfl ?_ | refine Fn.ret3 HF rfl rfl rfl rfl ?_ | refine Fn.ret0 HF rfl ?_ | refine Fn.fin0 HF rfl ?_ | refine Fn.retG (E := env) HF rfl H (by first | exact RVs.cellN rfl rfl rfl (by first | exact .head | exact .tail .head | exact .tail (.tail .head) | exact .tail (.tail (.tail .head)) | exact .tail (.tail (.tail (.tail .head))) | exact .tail (.tail (.tail (.tail (.tail .head)))) | exact .tail (.tail (.tail (.tail (.tail (.tail .head)))))) (by first | assumption | exact Cs.take rfl) RVs.nil | exact RVs.cellN rfl rfl rfl (by first | exact .head | exact .tail .head | exact .tail (.tail .head) | exact .tail (.tail (.tail .head)) | exact .tail (.tail (.tail (.tail .head))) | exact .tail (.tail (.tail (.tail (.tail .head)))) | exact .tail (.tail (.tail (.tail (.tail (.tail .head)))))) (by first | assumption | exact Cs.take rfl) (RVs.tmp rfl RVs.nil)) rfl ?_)
    obtain ⟨e1, e2⟩ := ends_none (done := done) he'
    rw [e1, e2]
    exact ⟨rfl, hf1.mono (by simp), c, h'.ext hf1, .inl rfl⟩
end Go.Proofs.Ythidohdnaeboaaa
