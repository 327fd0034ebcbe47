/- Layer 20: bytes of their own; a window by the program and by the document begins. -/
import Derived.Test.YtaneenahapdabaaSX
import Derived.Test.YtaneenahapdabaaP7
namespace Go.Proofs.Ytaneenahapdabaa
open Go
set_option maxRecDepth 20000
set_option maxHeartbeats 2000000
attribute [local irreducible] Run Ops Fn Draw Draw2 PureOp StepZ

theorem own_one (z : World) (v : Value) (xs : List Int) (hv : Bys z v xs) (hb : xs.length ≤ 140737488355327) :
    Fn env.P 8 [v] z fun r w' => ∃ nb cs, r = .slice (some ⟨nb, 0, none⟩) xs.length (xs.length + 2) ∧ w'.heap[nb]? = some (row cs 5) ∧ cs.length = xs.length + 2 ∧ Cs cs 0 xs.length (u8s xs) ∧ z.heap.size ≤ nb ∧ Fr z w' [] := by
  have hv' := hv
  obtain ⟨a, cap, b, off, cs, T, fz, rfl, h2, h3, h4, h5⟩ := hv
  have H := Holds.start z []
  have HF := Try.func8; refine Fn.enter Try.func8 Try.ntmps8 rfl rfl rfl ?_
  refine Run.seq ?_
  (refine Run.region ?_; intro K hK)
  refine Ops.pure H (X.assign rfl) rfl rfl rfl ?_
  (refine Ops.nil (hK _ _ ?_); clear hK K)
  refine Run.seq ?_
  (refine Run.region ?_; intro K hK)
  refine Ops.pure H (X.move rfl) rfl rfl rfl ?_
  refine Ops.pure H (X.len_slice rfl rfl rfl) rfl rfl rfl ?_
  refine Ops.pure H (X.add_in rfl rfl (IntWalk.i64_in _ (by omega))) rfl rfl rfl ?_
  refine Ops.eff rfl (Y.make (len := 0) (cap := xs.length + 2) rfl rfl (by omega) rfl rfl rfl rfl (by dsimp only; omega) (by omega) rfl H ?_)
  intro nb ncs w H hnb hnl hnr
  refine Ops.pure H (X.move rfl) rfl rfl rfl ?_
  refine Ops.eff rfl (Y.append_room (news := u8s xs) rfl rfl rfl rfl rfl H .head (by omega) (by dsimp only at hnl ⊢; omega) (by simp) ((hv'.ext H.fr).src) (u8s_one xs) rfl ?_)
  intro w H
  refine Ops.pure H (X.assign rfl) rfl rfl rfl ?_
  (refine Ops.nil (hK _ _ ?_); clear hK K)
  (first | refine Fn.ret1 HF rfl rfl ?_ | refine Fn.ret2 HF rfl rfl rfl ?_ | refine Fn.ret3 HF rfl rfl rfl rfl ?_ | refine Fn.ret0 HF rfl ?_ | refine Fn.fin0 HF rfl ?_ | refine Fn.retG (E := env) HF rfl H (by first | exact RVs.cellN rfl rfl rfl (by first | exact .head | exact .tail .head | exact .tail (.tail .head) | exact .tail (.tail (.tail .head)) | exact .tail (.tail (.tail (.tail .head))) | exact .tail (.tail (.tail (.tail (.tail .head)))) | exact .tail (.tail (.tail (.tail (.tail (.tail .head)))))) (by first | assumption | exact Cs.take rfl) RVs.nil | exact RVs.cellN rfl rfl rfl (by first | exact .head | exact .tail .head | exact .tail (.tail .head) | exact .tail (.tail (.tail .head)) | exact .tail (.tail (.tail (.tail .head))) | exact .tail (.tail (.tail (.tail (.tail .head)))) | exact .tail (.tail (.tail (.tail (.tail (.tail .head)))))) (by first | assumption | exact Cs.take rfl) (RVs.tmp rfl RVs.nil) | exact RVs.cellN rfl rfl rfl (by first | exact .head | exact .tail .head | exact .tail (.tail .head) | exact .tail (.tail (.tail .head)) | exact .tail (.tail (.tail (.tail .head))) | exact .tail (.tail (.tail (.tail (.tail .head)))) | exact .tail (.tail (.tail (.tail (.tail (.tail .head)))))) (by first | assumption | exact Cs.take rfl) (RVs.tmp rfl (RVs.tmp rfl RVs.nil))) rfl ?_)
  dsimp only at hnl
  exact ⟨nb, _, by rw [Nat.zero_add], H.pick .head, by rw [putC_length]; omega, (Cs.put (by simp; omega)).cast rfl (by simp) rfl, hnb, H.fr⟩
theorem dnew_no (z : World) (n : Int) (h : ¬ (1 ≤ n ∧ n ≤ 64)) : Fn env.P 16 [.int .i64 n] z fun v w' => v = .tuple #[.pointer none, .int .i64 1] ∧ Fr z w' [] := by
  have H := Holds.start z []
  have HF := Try.func16; refine Fn.enter Try.func16 Try.ntmps16 rfl rfl rfl ?_
  refine Run.seq ?_
  (refine Run.region ?_; intro K hK)
  refine Ops.pure H (X.assign rfl) rfl rfl rfl ?_
  refine Ops.pure H (X.assign rfl) rfl rfl rfl ?_
  (refine Ops.nil (hK _ _ ?_); clear hK K)
  refine Run.seq ?_
  refine Run.seq ?_
  (refine Run.region ?_; intro K hK)
  refine Ops.pure H (X.move rfl) rfl rfl rfl ?_
  refine Ops.pure H (X.cmp rfl rfl rfl) rfl rfl rfl ?_
  refine Ops.pure H (X.move rfl) rfl rfl rfl ?_
  refine Ops.split_dec rfl rfl (fun h7 => ?x0) (fun h7 => ?y0)
  case' y0 =>
    refine Ops.pure H (X.move rfl) rfl rfl rfl ?_
    refine Ops.pure H (X.cmp rfl rfl rfl) rfl rfl rfl ?_
    refine Ops.pure H (X.pick_f rfl rfl) rfl rfl rfl ?_
    (refine Ops.nil (hK _ _ ?_); clear hK K)
    refine Run.cond_dec rfl (fun h9 => ?x1) (fun h9 => ?y1)
    case' y1 => exfalso; omega
    case' x1 =>
      refine Run.seq ?_
      (refine Run.region ?_; intro K hK)
      refine Ops.pure H (X.assign rfl) rfl rfl rfl ?_
      refine Ops.pure H (X.assign rfl) rfl rfl rfl ?_
      (refine Ops.nil (hK _ _ ?_); clear hK K)
  case' x0 =>
    refine Ops.pass rfl rfl rfl ?_
    refine Ops.pass rfl rfl rfl ?_
    refine Ops.pure H (X.pick_t rfl rfl) rfl rfl rfl ?_
    (refine Ops.nil (hK _ _ ?_); clear hK K)
    refine Run.cond_true rfl ?_
    refine Run.seq ?_
    (refine Run.region ?_; intro K hK)
    refine Ops.pure H (X.assign rfl) rfl rfl rfl ?_
    refine Ops.pure H (X.assign rfl) rfl rfl rfl ?_
    (refine Ops.nil (hK _ _ ?_); clear hK K)
  all_goals (first | refine Fn.ret1 HF rfl rfl ?_ | refine Fn.ret2 HF rfl rfl rfl ?_ | refine Fn.ret3 HF rfl rfl rfl rfl ?_ | refine Fn.ret0 HF rfl ?_ | refine Fn.fin0 HF rfl ?_ | refine Fn.retG (E := env) HF rfl H (by first | exact RVs.cellN rfl rfl rfl (by first | exact .head | exact .tail .head | exact .tail (.tail .head) | exact .tail (.tail (.tail .head)) | exact .tail (.tail (.tail (.tail .head))) | exact .tail (.tail (.tail (.tail (.tail .head)))) | exact .tail (.tail (.tail (.tail (.tail (.tail .head)))))) (by first | assumption | exact Cs.take rfl) RVs.nil | exact RVs.cellN rfl rfl rfl (by first | exact .head | exact .tail .head | exact .tail (.tail .head) | exact .tail (.tail (.tail .head)) | exact .tail (.tail (.tail (.tail .head))) | exact .tail (.tail (.tail (.tail (.tail .head)))) | exact .tail (.tail (.tail (.tail (.tail (.tail .head)))))) (by first | assumption | exact Cs.take rfl) (RVs.tmp rfl RVs.nil) | exact RVs.cellN rfl rfl rfl (by first | exact .head | exact .tail .head | exact .tail (.tail .head) | exact .tail (.tail (.tail .head)) | exact .tail (.tail (.tail (.tail .head))) | exact .tail (.tail (.tail (.tail (.tail .head)))) | exact .tail (.tail (.tail (.tail (.tail (.tail .head)))))) (by first | assumption | exact Cs.take rfl) (RVs.tmp rfl (RVs.tmp rfl RVs.nil))) rfl ?_)
  all_goals exact ⟨rfl, H.fr⟩
theorem dnew_yes (z : World) (n : Int) (h1 : 1 ≤ n) (h2 : n ≤ 64) : Fn env.P 16 [.int .i64 n] z fun v w' => ∃ db, v = .tuple #[.pointer (some ⟨db, 0, none⟩), .int .i64 0] ∧ w'.heap[db]? = some (row [.int .i64 n, .slice none 0 0] 80) ∧ Fr z w' [] ∧ z.heap.size ≤ db := by
  have H := Holds.start z []
  have HF := Try.func16; refine Fn.enter Try.func16 Try.ntmps16 rfl rfl rfl ?_
  refine Run.seq ?_
  (refine Run.region ?_; intro K hK)
  refine Ops.pure H (X.assign rfl) rfl rfl rfl ?_
  refine Ops.pure H (X.assign rfl) rfl rfl rfl ?_
  (refine Ops.nil (hK _ _ ?_); clear hK K)
  refine Run.seq ?_
  refine Run.seq ?_
  (refine Run.region ?_; intro K hK)
  refine Ops.pure H (X.move rfl) rfl rfl rfl ?_
  refine Ops.pure H (X.cmp rfl rfl rfl) rfl rfl rfl ?_
  refine Ops.pure H (X.move rfl) rfl rfl rfl ?_
  refine Ops.split_dec rfl rfl (fun h7 => ?x2) (fun h7 => ?y2)
  case' y2 =>
    refine Ops.pure H (X.move rfl) rfl rfl rfl ?_
    refine Ops.pure H (X.cmp rfl rfl rfl) rfl rfl rfl ?_
    refine Ops.pure H (X.pick_f rfl rfl) rfl rfl rfl ?_
    (refine Ops.nil (hK _ _ ?_); clear hK K)
    refine Run.cond_dec rfl (fun h9 => ?x3) (fun h9 => ?y3)
    case' y3 =>
      refine Run.skip ?_
      refine Run.seq ?_
      (refine Run.region ?_; intro K hK)
      refine Ops.pure H (X.move rfl) rfl rfl rfl ?_
      refine Ops.pure H (X.buildO rfl rfl rfl rfl rfl rfl) rfl rfl rfl ?_
      (refine Ops.eff rfl (Y.box rfl rfl rfl H ?_); intro b12 w H0 hb12; clear H; have H := H0; clear H0)
      refine Ops.pure H (X.assign rfl) rfl rfl rfl ?_
      refine Ops.pure H (X.assign rfl) rfl rfl rfl ?_
      (refine Ops.nil (hK _ _ ?_); clear hK K)
    case' x3 => exfalso; omega
  case' x2 => exfalso; omega
  (first | refine Fn.ret1 HF rfl rfl ?_ | refine Fn.ret2 HF rfl rfl rfl ?_ | refine Fn.ret3 HF rfl rfl rfl rfl ?_ | refine Fn.ret0 HF rfl ?_ | refine Fn.fin0 HF rfl ?_ | refine Fn.retG (E := env) HF rfl H (by first | exact RVs.cellN rfl rfl rfl (by first | exact .head | exact .tail .head | exact .tail (.tail .head) | exact .tail (.tail (.tail .head)) | exact .tail (.tail (.tail (.tail .head))) | exact .tail (.tail (.tail (.tail (.tail .head)))) | exact .tail (.tail (.tail (.tail (.tail (.tail .head)))))) (by first | assumption | exact Cs.take rfl) RVs.nil | exact RVs.cellN rfl rfl rfl (by first | exact .head | exact .tail .head | exact .tail (.tail .head) | exact .tail (.tail (.tail .head)) | exact .tail (.tail (.tail (.tail .head))) | exact .tail (.tail (.tail (.tail (.tail .head)))) | exact .tail (.tail (.tail (.tail (.tail (.tail .head)))))) (by first | assumption | exact Cs.take rfl) (RVs.tmp rfl RVs.nil) | exact RVs.cellN rfl rfl rfl (by first | exact .head | exact .tail .head | exact .tail (.tail .head) | exact .tail (.tail (.tail .head)) | exact .tail (.tail (.tail (.tail .head))) | exact .tail (.tail (.tail (.tail (.tail .head)))) | exact .tail (.tail (.tail (.tail (.tail (.tail .head)))))) (by first | assumption | exact Cs.take rfl) (RVs.tmp rfl (RVs.tmp rfl RVs.nil))) rfl ?_)
  exact ⟨_, rfl, H.pick .head, H.fr, by assumption⟩
theorem begins_no (z : World) (n : Int) (h : ¬ (1 ≤ n ∧ n ≤ 64)) : Fn env.P 6 [.int .i64 n] z fun v w' => v = .tuple #[.pointer none, .bool true] ∧ Fr z w' [] := by
  have H := Holds.start z []
  have HF := Try.func6; refine Fn.enter Try.func6 Try.ntmps6 rfl rfl rfl ?_
  refine Run.seq ?_
  (refine Run.region ?_; intro K hK)
  refine Ops.pure H (X.assign rfl) rfl rfl rfl ?_
  refine Ops.pure H (X.assign rfl) rfl rfl rfl ?_
  (refine Ops.nil (hK _ _ ?_); clear hK K)
  refine Run.seq ?_
  (refine Run.region ?_; intro K hK)
  refine Ops.pure H (X.move rfl) rfl rfl rfl ?_
  refine Ops.eff rfl (Y.call rfl rfl (by first | assumption | decide +kernel) rfl (new_no _ n h) rfl ?_)
  rintro v w1 ⟨rfl, hf1⟩
  replace H := H.ext hf1
  refine Ops.pure H (X.move rfl) rfl rfl rfl ?_
  refine Ops.pure H (X.extract rfl rfl) rfl rfl rfl ?_
  refine Ops.pure H (X.extract rfl rfl) rfl rfl rfl ?_
  refine Ops.pure H (X.assign rfl) rfl rfl rfl ?_
  refine Ops.pure H (X.assign rfl) rfl rfl rfl ?_
  (refine Ops.nil (hK _ _ ?_); clear hK K)
  refine Run.seq ?_
  (refine Run.region ?_; intro K hK)
  refine Ops.pure H (X.move rfl) rfl rfl rfl ?_
  refine Ops.eff rfl (Y.call rfl rfl (by first | assumption | decide +kernel) rfl (dnew_no _ n h) rfl ?_)
  rintro v w2 ⟨rfl, hf2⟩
  replace H := H.ext hf2
  refine Ops.pure H (X.move rfl) rfl rfl rfl ?_
  refine Ops.pure H (X.extract rfl rfl) rfl rfl rfl ?_
  refine Ops.pure H (X.extract rfl rfl) rfl rfl rfl ?_
  refine Ops.pure H (X.assign rfl) rfl rfl rfl ?_
  refine Ops.pure H (X.assign rfl) rfl rfl rfl ?_
  (refine Ops.nil (hK _ _ ?_); clear hK K)
  refine Run.seq ?_
  refine Run.seq ?_
  (refine Run.region ?_; intro K hK)
  refine Ops.pure H (X.move rfl) rfl rfl rfl ?_
  refine Ops.pure H (X.move rfl) rfl rfl rfl ?_
  refine Ops.pure H (X.cmp rfl rfl rfl) rfl rfl rfl ?_
  refine Ops.pure H (X.move rfl) rfl rfl rfl ?_
  refine Ops.pure H (X.move rfl) rfl rfl rfl ?_
  refine Ops.pure H (X.ptrNil rfl rfl rfl rfl rfl) rfl rfl rfl ?_
  refine Ops.pure H (X.move rfl) rfl rfl rfl ?_
  refine Ops.pure H (X.ptrNil rfl rfl rfl rfl rfl) rfl rfl rfl ?_
  refine Ops.pure H (X.boolEq rfl rfl rfl rfl rfl) rfl rfl rfl ?_
  refine Ops.pure H (X.pick_f rfl rfl) rfl rfl rfl ?_
  (refine Ops.nil (hK _ _ ?_); clear hK K)
  refine Run.cond_false rfl ?_
  refine Run.skip ?_
  refine Run.seq ?_
  refine Run.seq ?_
  (refine Run.region ?_; intro K hK)
  refine Ops.pure H (X.move rfl) rfl rfl rfl ?_
  refine Ops.pure H (X.ptrNil rfl rfl rfl rfl rfl) rfl rfl rfl ?_
  (refine Ops.nil (hK _ _ ?_); clear hK K)
  refine Run.cond_true rfl ?_
  refine Run.seq ?_
  (refine Run.region ?_; intro K hK)
  refine Ops.pure H (X.assign rfl) rfl rfl rfl ?_
  refine Ops.pure H (X.assign rfl) rfl rfl rfl ?_
  (refine Ops.nil (hK _ _ ?_); clear hK K)
  (first | refine Fn.ret1 HF rfl rfl ?_ | refine Fn.ret2 HF rfl rfl rfl ?_ | refine Fn.ret3 HF rfl rfl rfl rfl ?_ | refine Fn.ret0 HF rfl ?_ | refine Fn.fin0 HF rfl ?_ | refine Fn.retG (E := env) HF rfl H (by first | exact RVs.cellN rfl rfl rfl (by first | exact .head | exact .tail .head | exact .tail (.tail .head) | exact .tail (.tail (.tail .head)) | exact .tail (.tail (.tail (.tail .head))) | exact .tail (.tail (.tail (.tail (.tail .head)))) | exact .tail (.tail (.tail (.tail (.tail (.tail .head)))))) (by first | assumption | exact Cs.take rfl) RVs.nil | exact RVs.cellN rfl rfl rfl (by first | exact .head | exact .tail .head | exact .tail (.tail .head) | exact .tail (.tail (.tail .head)) | exact .tail (.tail (.tail (.tail .head))) | exact .tail (.tail (.tail (.tail (.tail .head)))) | exact .tail (.tail (.tail (.tail (.tail (.tail .head)))))) (by first | assumption | exact Cs.take rfl) (RVs.tmp rfl RVs.nil) | exact RVs.cellN rfl rfl rfl (by first | exact .head | exact .tail .head | exact .tail (.tail .head) | exact .tail (.tail (.tail .head)) | exact .tail (.tail (.tail (.tail .head))) | exact .tail (.tail (.tail (.tail (.tail .head)))) | exact .tail (.tail (.tail (.tail (.tail (.tail .head)))))) (by first | assumption | exact Cs.take rfl) (RVs.tmp rfl (RVs.tmp rfl RVs.nil))) rfl ?_)
  exact ⟨rfl, H.fr⟩
theorem begins_yes (z : World) (n : Int) (h1 : 1 ≤ n) (h2 : n ≤ 64) : Fn env.P 6 [.int .i64 n] z fun v w' => ∃ pb wb mb db, v = .tuple #[.pointer (some ⟨pb, 0, none⟩), .bool true] ∧ w'.heap[pb]? = some (row [.pointer (some ⟨wb, 0, none⟩), .pointer (some ⟨db, 0, none⟩)] 36) ∧ Wn w' ⟨wb, mb, n, 0, fun _ => none⟩ ∧ w'.heap[db]? = some (row [.int .i64 n, .slice none 0 0] 80) ∧ Fr z w' [] ∧ z.heap.size ≤ wb ∧ z.heap.size ≤ mb ∧ z.heap.size ≤ db ∧ z.heap.size ≤ pb := by
  have H := Holds.start z []
  have HF := Try.func6; refine Fn.enter Try.func6 Try.ntmps6 rfl rfl rfl ?_
  refine Run.seq ?_
  (refine Run.region ?_; intro K hK)
  refine Ops.pure H (X.assign rfl) rfl rfl rfl ?_
  refine Ops.pure H (X.assign rfl) rfl rfl rfl ?_
  (refine Ops.nil (hK _ _ ?_); clear hK K)
  refine Run.seq ?_
  (refine Run.region ?_; intro K hK)
  refine Ops.pure H (X.move rfl) rfl rfl rfl ?_
  refine Ops.eff rfl (Y.call rfl rfl (by first | assumption | decide +kernel) rfl (new_yes _ n h1 h2) rfl ?_)
  rintro v w1 ⟨wb, mb, rfl, hW1, hf1, hwb, hmb⟩
  have hz1 := H.fr.size
  have hz2 := hf1.size
  replace H := H.ext hf1
  have F1 := H.fr
  replace H := H.anew (S' := []) (G' := []) (by repeat constructor) (by simp)
  refine Ops.pure H (X.move rfl) rfl rfl rfl ?_
  refine Ops.pure H (X.extract rfl rfl) rfl rfl rfl ?_
  refine Ops.pure H (X.extract rfl rfl) rfl rfl rfl ?_
  refine Ops.pure H (X.assign rfl) rfl rfl rfl ?_
  refine Ops.pure H (X.assign rfl) rfl rfl rfl ?_
  (refine Ops.nil (hK _ _ ?_); clear hK K)
  refine Run.seq ?_
  (refine Run.region ?_; intro K hK)
  refine Ops.pure H (X.move rfl) rfl rfl rfl ?_
  refine Ops.eff rfl (Y.call rfl rfl (by first | assumption | decide +kernel) rfl (dnew_yes _ n h1 h2) rfl ?_)
  rintro v w2 ⟨db, rfl, hD2, hf2, hdb⟩
  have hz3 := H.fr.size
  have hz4 := hf2.size
  have hz5 := F1.size
  have hW2 := (hW1.ext H.fr).ext hf2
  have F2 := (F1.then H.fr).then hf2
  clear H
  have H := (Holds.start w2 []).add false hD2 (by simp) (by simp)
  refine Ops.pure H (X.move rfl) rfl rfl rfl ?_
  refine Ops.pure H (X.extract rfl rfl) rfl rfl rfl ?_
  refine Ops.pure H (X.extract rfl rfl) rfl rfl rfl ?_
  refine Ops.pure H (X.assign rfl) rfl rfl rfl ?_
  refine Ops.pure H (X.assign rfl) rfl rfl rfl ?_
  (refine Ops.nil (hK _ _ ?_); clear hK K)
  refine Run.seq ?_
  refine Run.seq ?_
  (refine Run.region ?_; intro K hK)
  refine Ops.pure H (X.move rfl) rfl rfl rfl ?_
  refine Ops.pure H (X.move rfl) rfl rfl rfl ?_
  refine Ops.pure H (X.cmp rfl rfl rfl) rfl rfl rfl ?_
  refine Ops.pure H (X.move rfl) rfl rfl rfl ?_
  refine Ops.pure H (X.move rfl) rfl rfl rfl ?_
  refine Ops.pure H (X.ptrNil rfl rfl rfl rfl rfl) rfl rfl rfl ?_
  refine Ops.pure H (X.move rfl) rfl rfl rfl ?_
  refine Ops.pure H (X.ptrNil rfl rfl rfl rfl rfl) rfl rfl rfl ?_
  refine Ops.pure H (X.boolEq rfl rfl rfl rfl rfl) rfl rfl rfl ?_
  refine Ops.pure H (X.pick_f rfl rfl) rfl rfl rfl ?_
  (refine Ops.nil (hK _ _ ?_); clear hK K)
  refine Run.cond_false rfl ?_
  refine Run.skip ?_
  refine Run.seq ?_
  refine Run.seq ?_
  (refine Run.region ?_; intro K hK)
  refine Ops.pure H (X.move rfl) rfl rfl rfl ?_
  refine Ops.pure H (X.ptrNil rfl rfl rfl rfl rfl) rfl rfl rfl ?_
  (refine Ops.nil (hK _ _ ?_); clear hK K)
  refine Run.cond_false rfl ?_
  refine Run.skip ?_
  refine Run.seq ?_
  (refine Run.region ?_; intro K hK)
  refine Ops.pure H (X.move rfl) rfl rfl rfl ?_
  refine Ops.pure H (X.move rfl) rfl rfl rfl ?_
  refine Ops.pure H (X.buildO rfl rfl rfl rfl rfl rfl) rfl rfl rfl ?_
  (refine Ops.eff rfl (Y.box rfl rfl rfl H ?_); intro b33 w H0 hb33; clear H; have H := H0; clear H0)
  refine Ops.pure H (X.assign rfl) rfl rfl rfl ?_
  refine Ops.pure H (X.assign rfl) rfl rfl rfl ?_
  (refine Ops.nil (hK _ _ ?_); clear hK K)
  (first | refine Fn.ret1 HF rfl rfl ?_ | refine Fn.ret2 HF rfl rfl rfl ?_ | refine Fn.ret3 HF rfl rfl rfl rfl ?_ | refine Fn.ret0 HF rfl ?_ | refine Fn.fin0 HF rfl ?_ | refine Fn.retG (E := env) HF rfl H (by first | exact RVs.cellN rfl rfl rfl (by first | exact .head | exact .tail .head | exact .tail (.tail .head) | exact .tail (.tail (.tail .head)) | exact .tail (.tail (.tail (.tail .head))) | exact .tail (.tail (.tail (.tail (.tail .head)))) | exact .tail (.tail (.tail (.tail (.tail (.tail .head)))))) (by first | assumption | exact Cs.take rfl) RVs.nil | exact RVs.cellN rfl rfl rfl (by first | exact .head | exact .tail .head | exact .tail (.tail .head) | exact .tail (.tail (.tail .head)) | exact .tail (.tail (.tail (.tail .head))) | exact .tail (.tail (.tail (.tail (.tail .head)))) | exact .tail (.tail (.tail (.tail (.tail (.tail .head)))))) (by first | assumption | exact Cs.take rfl) (RVs.tmp rfl RVs.nil) | exact RVs.cellN rfl rfl rfl (by first | exact .head | exact .tail .head | exact .tail (.tail .head) | exact .tail (.tail (.tail .head)) | exact .tail (.tail (.tail (.tail .head))) | exact .tail (.tail (.tail (.tail (.tail .head)))) | exact .tail (.tail (.tail (.tail (.tail (.tail .head)))))) (by first | assumption | exact Cs.take rfl) (RVs.tmp rfl (RVs.tmp rfl RVs.nil))) rfl ?_)
  exact ⟨_, wb, mb, db, rfl, H.pick (by first | exact .head | exact .tail .head | exact .tail (.tail .head) | exact .tail (.tail (.tail .head)) | exact .tail (.tail (.tail (.tail .head))) | exact .tail (.tail (.tail (.tail (.tail .head)))) | exact .tail (.tail (.tail (.tail (.tail (.tail .head)))))), hW2.ext H.fr, H.pick (b := db) (by first | exact .head | exact .tail .head | exact .tail (.tail .head) | exact .tail (.tail (.tail .head)) | exact .tail (.tail (.tail (.tail .head))) | exact .tail (.tail (.tail (.tail (.tail .head)))) | exact .tail (.tail (.tail (.tail (.tail (.tail .head)))))), F2.then H.fr, by omega, by omega, by omega, by omega⟩
/-- Put keeps a client whole. -/
theorem Full.ins {size : Nat} {s : CS} {seq : Int} {bs : List Int} (h : s = cs0 ∨ Full size s) (h1 : 1 ≤ size) (hq : U64 seq) (hf : s.floor < seq) (hk : s.ans seq = none) (hb : Byt bs) (hl : bs.length ≤ 65536) : Full size (insC size s seq bs) := by
  have hr : Ris s := h.elim (fun e => by rw [e]; exact Ris.zero) (fun h => h.ris)
  have hok : COk s := h.elim (fun e => by rw [e]; exact ⟨⟨by simp [cs0], by simp [cs0]⟩, by simp [cs0], by simp [cs0]⟩) (fun h => h.ok)
  have hle : s.seqs.length ≤ size := h.elim (fun e => by rw [e]; simp [cs0]) (fun h => h.le)
  have hall : s.floor ≠ 0 → s.seqs.length = size := h.elim (fun e => by rw [e]; simp [cs0]) (fun h => h.all)
  have hR := (hr.ins (n := (size : Int)) (bs := bs) hf hk).1
  have hlen := insL_len (x := seq) (bsL_le s.seqs seq)
  have hmem : ∀ y ∈ insL (bsL s.seqs seq) seq s.seqs, U64 y := fun y hy => by
    rcases insL_mem.1 hy with rfl | hy
    · exact hq
    · exact hok.sq y hy
  have han : ∀ x a, updA s.ans seq (some bs) x = some a → Byt a ∧ a.length ≤ 65536 := fun x a hx => by
    rw [updA] at hx
    split at hx
    · cases hx; exact ⟨hb, hl⟩
    · exact hok.an x a hx
  have hg : U64 ((insL (bsL s.seqs seq) seq s.seqs).getD 0 0) := by
    cases hQ : insL (bsL s.seqs seq) seq s.seqs with
    | nil => exact ⟨by simp, by simp⟩
    | cons q r => exact hmem q (by rw [hQ]; simp)
  unfold insC at hR ⊢
  by_cases hs : (size : Int) < ((insL (bsL s.seqs seq) seq s.seqs).length : Nat)
  · rw [if_pos hs] at hR ⊢
    refine ⟨⟨hg, fun x hx => hmem x (List.mem_of_mem_tail hx), fun x a hx => ?_⟩, hR, ?_, ?_, fun _ => ?_⟩
    · dsimp only at hx
      rw [updA] at hx
      split at hx
      · cases hx
      · exact han x a hx
    · simp; omega
    · simp; omega
    · simp; omega
  · rw [if_neg hs] at hR ⊢
    refine ⟨⟨hok.fl, hmem, han⟩, hR, ?_, ?_, fun h0 => ?_⟩
    · dsimp only; omega
    · dsimp only; omega
    · dsimp only at h0 ⊢
      have := hall h0
      omega
theorem ask_fresh {s : Option CS} {seq : Int} (h0 : 0 < seq) (h : askK s seq = 1) : (s.getD cs0).floor < seq ∧ (s.getD cs0).ans seq = none := by
  cases s with
  | none => exact ⟨h0, rfl⟩
  | some c =>
    unfold askK at h
    dsimp only at h
    split at h
    · omega
    · split at h
      · omega
      · rename_i h1 h2
        refine ⟨by simp only [Option.getD_some]; omega, ?_⟩
        simp only [Option.getD_some]
        cases ha : c.ans seq with
        | none => rfl
        | some b => rw [ha] at h2; exact absurd rfl h2
theorem putS_full {size N : Nat} {s : Option CS} {seq : Int} {bs : List Int} (h : ∀ c, s = some c → Full size c) (h1 : 1 ≤ size) (hq : U64 seq) (hb : Byt bs) : ∀ c, putS size N s seq bs = some c → Full size c := by
  unfold putS
  split
  · rename_i he
    intro c hc
    cases hc
    unfold putE at he
    split at he
    · omega
    · split at he
      · omega
      · split at he
        · omega
        · rename_i h0 hl hk
          have hk' : askK s seq = 1 := Classical.not_not.1 hk
          have hf := ask_fresh (by have := hq.1; omega) hk'
          refine Full.ins ?_ h1 hq hf.1 hf.2 hb (by omega)
          cases s with
          | none => exact .inl rfl
          | some c => exact .inr (h c rfl)
  · exact h
end Go.Proofs.Ytaneenahapdabaa
