/- The library's sort, walked: slices.Sort. -/
import Derived.Test.YtaneenahapdabaaSH
namespace Go.Proofs.Ytaneenahapdabaa
open Go
set_option maxRecDepth 20000
set_option maxHeartbeats 2000000
attribute [local irreducible] Run Ops Fn Draw Draw2 PureOp StepZ

theorem ins_nil (z : World) : Fn env.P 66 [.slice none 0 0, .int .i64 ((0 : Nat) : Int), .int .i64 ((0 : Nat) : Int)] z fun _ w' => Fr z w' [] := by
  have H := Holds.start z []
  have HF := Try.func66; refine Fn.enter Try.func66 Try.ntmps66 rfl rfl rfl ?_
  refine Run.seq ?_
  (refine Run.region ?_; intro K hK)
  refine Ops.pure H (X.move rfl) rfl rfl rfl ?_
  refine Ops.pure H (X.succ rfl rfl (by omega)) rfl rfl rfl ?_
  refine Ops.pure H (X.assign rfl) rfl rfl rfl ?_
  (refine Ops.nil (hK _ _ ?_); clear hK K)
  refine Run.block ?_
  refine Run.rounds (fun (_ : Unit) => [(2, .int .i64 ((0 : Nat) : Int)), (6, .int .i64 ((0 + 1 : Nat) : Int))]) (fun _ w' => Fr z w' []) (fun _ => 0) () (by repeat (first | exact trivial | refine ⟨rfl, ?_⟩)) H.fr ?_
  clear H
  rintro _ w1 hf1 _
  have H := Holds.start w1 []
  refine Run.seq ?_
  refine Run.seq ?_
  (refine Run.region ?_; intro K hK)
  refine Ops.pure H (X.move rfl) rfl rfl rfl ?_
  refine Ops.pure H (X.move rfl) rfl rfl rfl ?_
  refine Ops.pure H (X.cmp rfl rfl rfl) rfl rfl rfl ?_
  (refine Ops.nil (hK _ _ ?_); clear hK K)
  refine Run.cond_false rfl ?_
  refine Run.exit rfl ?_
  (first | refine Fn.ret1 HF rfl rfl ?_ | refine Fn.ret2 HF rfl rfl rfl ?_ | refine Fn.ret3 HF rfl rfl rfl rfl ?_ | refine Fn.ret0 HF rfl ?_ | refine Fn.fin0 HF rfl ?_ | refine Fn.retG (E := env) HF rfl H (by first | exact RVs.cellN rfl rfl rfl (by first | exact .head | exact .tail .head | exact .tail (.tail .head) | exact .tail (.tail (.tail .head)) | exact .tail (.tail (.tail (.tail .head))) | exact .tail (.tail (.tail (.tail (.tail .head)))) | exact .tail (.tail (.tail (.tail (.tail (.tail .head)))))) (by first | assumption | exact Cs.take rfl) RVs.nil | exact RVs.cellN rfl rfl rfl (by first | exact .head | exact .tail .head | exact .tail (.tail .head) | exact .tail (.tail (.tail .head)) | exact .tail (.tail (.tail (.tail .head))) | exact .tail (.tail (.tail (.tail (.tail .head)))) | exact .tail (.tail (.tail (.tail (.tail (.tail .head)))))) (by first | assumption | exact Cs.take rfl) (RVs.tmp rfl RVs.nil) | exact RVs.cellN rfl rfl rfl (by first | exact .head | exact .tail .head | exact .tail (.tail .head) | exact .tail (.tail (.tail .head)) | exact .tail (.tail (.tail (.tail .head))) | exact .tail (.tail (.tail (.tail (.tail .head)))) | exact .tail (.tail (.tail (.tail (.tail (.tail .head)))))) (by first | assumption | exact Cs.take rfl) (RVs.tmp rfl (RVs.tmp rfl RVs.nil))) rfl ?_)
  exact hf1.then H.fr
theorem pdq_nil (z : World) (lim : Nat) : Fn env.P 64 [.slice none 0 0, .int .i64 ((0 : Nat) : Int), .int .i64 ((0 : Nat) : Int), .int .i64 (lim : Nat)] z fun _ w' => Fr z w' [] := by
  have H := Holds.start z []
  have HF := Try.func64; refine Fn.enter Try.func64 Try.ntmps64 rfl rfl rfl ?_
  refine Run.seq ?_
  (refine Run.region ?_; intro K hK)
  refine Ops.pure H (X.assign rfl) rfl rfl rfl ?_
  (refine Ops.nil (hK _ _ ?_); clear hK K)
  refine Run.seq ?_
  (refine Run.region ?_; intro K hK)
  refine Ops.pure H (X.assign rfl) rfl rfl rfl ?_
  (refine Ops.nil (hK _ _ ?_); clear hK K)
  refine Run.block ?_
  refine Run.rounds (fun (_ : Unit) => [(0, .slice none 0 0), (1, .int .i64 ((0 : Nat) : Int)), (2, .int .i64 ((0 : Nat) : Int))]) (fun _ w' => Fr z w' []) (fun _ => 0) () (by repeat (first | exact trivial | refine ⟨rfl, ?_⟩)) H.fr ?_
  clear H
  rintro _ w1 hf1 _
  have H := Holds.start w1 []
  refine Run.block ?_
  refine Run.seq ?_
  (refine Run.region ?_; intro K hK)
  refine Ops.pure H (X.move rfl) rfl rfl rfl ?_
  refine Ops.pure H (X.move rfl) rfl rfl rfl ?_
  refine Ops.pure H (X.subN rfl rfl rfl rfl (by omega) (IntWalk.i64_in _ (by omega))) rfl rfl rfl ?_
  refine Ops.pure H (X.assign rfl) rfl rfl rfl ?_
  (refine Ops.nil (hK _ _ ?_); clear hK K)
  refine Run.seq ?_
  refine Run.seq ?_
  (refine Run.region ?_; intro K hK)
  refine Ops.pure H (X.move rfl) rfl rfl rfl ?_
  refine Ops.pure H (X.cmp rfl rfl rfl) rfl rfl rfl ?_
  (refine Ops.nil (hK _ _ ?_); clear hK K)
  refine Run.cond_true rfl ?_
  refine Run.seq ?_
  (refine Run.region ?_; intro K hK)
  refine Ops.pure H (X.move rfl) rfl rfl rfl ?_
  refine Ops.pure H (X.move rfl) rfl rfl rfl ?_
  refine Ops.pure H (X.move rfl) rfl rfl rfl ?_
  refine Ops.eff rfl (Y.call rfl rfl (by first | assumption | decide +kernel) rfl (ins_nil _) rfl ?_)
  rintro v w2 hf2
  have F2 := hf1.then (H.fr.then hf2)
  clear H
  have H := Holds.start w2 []
  (refine Ops.nil (hK _ _ ?_); clear hK K)
  (first | refine Fn.ret1 HF rfl rfl ?_ | refine Fn.ret2 HF rfl rfl rfl ?_ | refine Fn.ret3 HF rfl rfl rfl rfl ?_ | refine Fn.ret0 HF rfl ?_ | refine Fn.fin0 HF rfl ?_ | refine Fn.retG (E := env) HF rfl H (by first | exact RVs.cellN rfl rfl rfl (by first | exact .head | exact .tail .head | exact .tail (.tail .head) | exact .tail (.tail (.tail .head)) | exact .tail (.tail (.tail (.tail .head))) | exact .tail (.tail (.tail (.tail (.tail .head)))) | exact .tail (.tail (.tail (.tail (.tail (.tail .head)))))) (by first | assumption | exact Cs.take rfl) RVs.nil | exact RVs.cellN rfl rfl rfl (by first | exact .head | exact .tail .head | exact .tail (.tail .head) | exact .tail (.tail (.tail .head)) | exact .tail (.tail (.tail (.tail .head))) | exact .tail (.tail (.tail (.tail (.tail .head)))) | exact .tail (.tail (.tail (.tail (.tail (.tail .head)))))) (by first | assumption | exact Cs.take rfl) (RVs.tmp rfl RVs.nil) | exact RVs.cellN rfl rfl rfl (by first | exact .head | exact .tail .head | exact .tail (.tail .head) | exact .tail (.tail (.tail .head)) | exact .tail (.tail (.tail (.tail .head))) | exact .tail (.tail (.tail (.tail (.tail .head)))) | exact .tail (.tail (.tail (.tail (.tail (.tail .head)))))) (by first | assumption | exact Cs.take rfl) (RVs.tmp rfl (RVs.tmp rfl RVs.nil))) rfl ?_)
  exact F2.then H.fr
theorem sort_nil (z : World) : Fn env.P 61 [.slice none 0 0] z fun _ w' => Fr z w' [] := by
  have H := Holds.start z []
  have HF := Try.func61; refine Fn.enter Try.func61 Try.ntmps61 rfl rfl rfl ?_
  refine Run.seq ?_
  (refine Run.region ?_; intro K hK)
  refine Ops.pure H (X.move rfl) rfl rfl rfl ?_
  refine Ops.pure H (X.len_slice rfl rfl rfl) rfl rfl rfl ?_
  refine Ops.pure H (X.assign rfl) rfl rfl rfl ?_
  (refine Ops.nil (hK _ _ ?_); clear hK K)
  (refine Run.region ?_; intro K hK)
  refine Ops.pure H (X.move rfl) rfl rfl rfl ?_
  refine Ops.pure H (X.move rfl) rfl rfl rfl ?_
  refine Ops.pure H (X.move rfl) rfl rfl rfl ?_
  refine Ops.pure H (X.conv rfl rfl rfl rfl rfl (u64_in _ (by omega))) rfl rfl rfl ?_
  refine Ops.eff rfl (Y.call rfl rfl (by first | assumption | decide +kernel) rfl (len_any _ 0 (by omega)) rfl ?_)
  rintro v w2 ⟨l, rfl, hl, _, hf2⟩
  have F2 := H.fr.then hf2
  clear H
  have H := Holds.start w2 []
  skip
  refine Ops.eff rfl (Y.call rfl rfl (by first | assumption | decide +kernel) rfl (pdq_nil _ l) rfl ?_)
  rintro v w3 hf3
  have F3 := F2.then (H.fr.then hf3)
  clear H
  have H := Holds.start w3 []
  (refine Ops.nil (hK _ _ ?_); clear hK K)
  (first | refine Fn.ret1 HF rfl rfl ?_ | refine Fn.ret2 HF rfl rfl rfl ?_ | refine Fn.ret3 HF rfl rfl rfl rfl ?_ | refine Fn.ret0 HF rfl ?_ | refine Fn.fin0 HF rfl ?_ | refine Fn.retG (E := env) HF rfl H (by first | exact RVs.cellN rfl rfl rfl (by first | exact .head | exact .tail .head | exact .tail (.tail .head) | exact .tail (.tail (.tail .head)) | exact .tail (.tail (.tail (.tail .head))) | exact .tail (.tail (.tail (.tail (.tail .head)))) | exact .tail (.tail (.tail (.tail (.tail (.tail .head)))))) (by first | assumption | exact Cs.take rfl) RVs.nil | exact RVs.cellN rfl rfl rfl (by first | exact .head | exact .tail .head | exact .tail (.tail .head) | exact .tail (.tail (.tail .head)) | exact .tail (.tail (.tail (.tail .head))) | exact .tail (.tail (.tail (.tail (.tail .head)))) | exact .tail (.tail (.tail (.tail (.tail (.tail .head)))))) (by first | assumption | exact Cs.take rfl) (RVs.tmp rfl RVs.nil) | exact RVs.cellN rfl rfl rfl (by first | exact .head | exact .tail .head | exact .tail (.tail .head) | exact .tail (.tail (.tail .head)) | exact .tail (.tail (.tail (.tail .head))) | exact .tail (.tail (.tail (.tail (.tail .head)))) | exact .tail (.tail (.tail (.tail (.tail (.tail .head)))))) (by first | assumption | exact Cs.take rfl) (RVs.tmp rfl (RVs.tmp rfl RVs.nil))) rfl ?_)
  exact F3.then H.fr
theorem sort_any (z : World) (blk off cap : Nat) (d : Array Int) (cs : List Value) {n : Nat} (hn : d.size = n) (h : Ar z blk off d cs) (hm : n ≤ 2305843009213693951) :
    Fn env.P 61 [.slice (some ⟨blk, off, none⟩) n cap] z fun _ w' => ∃ (d' : Array Int) (cs' : List Value), Ar w' blk off d' cs' ∧ Sort.PermIn 0 n d d' ∧ Sort.SortedIn ltU 0 n d' ∧ Fr z w' [blk] := by
  have H := Holds.start z []
  have HF := Try.func61; refine Fn.enter Try.func61 Try.ntmps61 rfl rfl rfl ?_
  refine Run.seq ?_
  (refine Run.region ?_; intro K hK)
  refine Ops.pure H (X.move rfl) rfl rfl rfl ?_
  refine Ops.pure H (X.len_slice rfl rfl rfl) rfl rfl rfl ?_
  refine Ops.pure H (X.assign rfl) rfl rfl rfl ?_
  (refine Ops.nil (hK _ _ ?_); clear hK K)
  (refine Run.region ?_; intro K hK)
  refine Ops.pure H (X.move rfl) rfl rfl rfl ?_
  refine Ops.pure H (X.move rfl) rfl rfl rfl ?_
  refine Ops.pure H (X.move rfl) rfl rfl rfl ?_
  refine Ops.pure H (X.conv rfl rfl rfl rfl rfl (u64_in _ (by omega))) rfl rfl rfl ?_
  refine Ops.eff rfl (Y.call rfl rfl (by first | assumption | decide +kernel) rfl (len_any _ n (by omega)) rfl ?_)
  rintro v w2 ⟨l, rfl, hl, _, hf2⟩
  have F2 := H.fr.then hf2
  clear H
  have H := Holds.start w2 []
  skip
  refine Ops.eff rfl (Y.call rfl rfl (by first | assumption | decide +kernel) rfl (pdq_any blk off cap n hm _ _ d cs 0 n l rfl hn ((h.ext F2).ext H.fr) (by omega) (by omega) hl (.inl rfl)) rfl ?_)
  rintro v w3 ⟨d3, cs3, h3, q1, q2, hf3⟩
  have F3 := F2.trans (U := [blk]) (H.fr.trans (U := [blk]) hf3 (by simp) (by simp)) (by simp) (by simp)
  clear H
  have H := Holds.start w3 []
  (refine Ops.nil (hK _ _ ?_); clear hK K)
  (first | refine Fn.ret1 HF rfl rfl ?_ | refine Fn.ret2 HF rfl rfl rfl ?_ | refine Fn.ret3 HF rfl rfl rfl rfl ?_ | refine Fn.ret0 HF rfl ?_ | refine Fn.fin0 HF rfl ?_ | refine Fn.retG (E := env) HF rfl H (by first | exact RVs.cellN rfl rfl rfl (by first | exact .head | exact .tail .head | exact .tail (.tail .head) | exact .tail (.tail (.tail .head)) | exact .tail (.tail (.tail (.tail .head))) | exact .tail (.tail (.tail (.tail (.tail .head)))) | exact .tail (.tail (.tail (.tail (.tail (.tail .head)))))) (by first | assumption | exact Cs.take rfl) RVs.nil | exact RVs.cellN rfl rfl rfl (by first | exact .head | exact .tail .head | exact .tail (.tail .head) | exact .tail (.tail (.tail .head)) | exact .tail (.tail (.tail (.tail .head))) | exact .tail (.tail (.tail (.tail (.tail .head)))) | exact .tail (.tail (.tail (.tail (.tail (.tail .head)))))) (by first | assumption | exact Cs.take rfl) (RVs.tmp rfl RVs.nil) | exact RVs.cellN rfl rfl rfl (by first | exact .head | exact .tail .head | exact .tail (.tail .head) | exact .tail (.tail (.tail .head)) | exact .tail (.tail (.tail (.tail .head))) | exact .tail (.tail (.tail (.tail (.tail .head)))) | exact .tail (.tail (.tail (.tail (.tail (.tail .head)))))) (by first | assumption | exact Cs.take rfl) (RVs.tmp rfl (RVs.tmp rfl RVs.nil))) rfl ?_)
  exact ⟨d3, _, h3.ext H.fr, q1, q2, F3.trans H.fr (by simp) (by simp)⟩
end Go.Proofs.Ytaneenahapdabaa
