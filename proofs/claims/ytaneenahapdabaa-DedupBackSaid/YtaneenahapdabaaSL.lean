/- The library's Collect and Sorted, walked; a window's clients, in ascending order. -/
import Derived.Test.YtaneenahapdabaaSK
namespace Go.Proofs.Ytaneenahapdabaa
open Go
set_option maxRecDepth 20000
set_option maxHeartbeats 2000000
attribute [local irreducible] Run Ops Fn Draw Draw2 PureOp StepZ

/-- A list that is only read. -/
def Ks (w : World) (v : Value) (ys : List Int) : Prop := ∃ a cap, v = .slice a ys.length cap ∧ (0 < ys.length → ∃ b cs, a = some ⟨b, 0, none⟩ ∧ w.heap[b]? = some (row cs 28) ∧ Cs cs 0 ys.length (u64s ys))
theorem Ks.ext {w w' : World} {v : Value} {ys : List Int} (h : Ks w v ys) (hf : Fr w w' []) : Ks w' v ys := by
  obtain ⟨a, cap, h1, h2⟩ := h
  exact ⟨a, cap, h1, fun h0 => by obtain ⟨b, cs, h3, h4, h5⟩ := h2 h0; exact ⟨b, cs, h3, hf.get h4 (by simp), h5⟩⟩
theorem collect_any (z : World) (xb mb k : Nat) (es : Array MapEntry) (hst : MapKept.Stamped es k) (hk : ∀ e ∈ es.toList, ∃ x, e.key = .int .u64 x) (hx : z.heap[xb]? = some (row [.map (some mb)] 55)) (hm : z.heap[mb]? = some (.map es k)) (hsz : es.size ≤ 1048576) :
    Fn env.P 60 [.func (.func 62) #[] #[.pointer (some ⟨xb, 0, none⟩)]] z fun v w' => ∃ xs, xs.Perm (es.toList.map fun e => kI e.key) ∧ Own w' z.heap.size 28 1 v xs.length (u64s xs) ∧ Fr z w' [] := by
  have H := Holds.start z []
  have HF := Try.func60; refine Fn.enter Try.func60 Try.ntmps60 rfl rfl rfl ?_
  refine Run.seq ?_
  (refine Run.region ?_; intro K hK)
  refine Ops.pure H (X.assign rfl) rfl rfl rfl ?_
  (refine Ops.nil (hK _ _ ?_); clear hK K)
  refine Run.seq ?_
  (refine Run.region ?_; intro K hK)
  refine Ops.pure H (X.move rfl) rfl rfl rfl ?_
  refine Ops.eff rfl (Y.call rfl rfl (by first | assumption | decide +kernel) rfl (append_any _ xb mb k es hst hk (H.fr.get hx (by simp)) (H.fr.get hm (by simp)) hsz) rfl ?_)
  rintro v w2 ⟨xs, hp, hO, hf2⟩
  have F2 := H.fr.then hf2
  have hz := H.fr.size
  clear H
  have H := Holds.start w2 []
  refine Ops.pure H (X.assign rfl) rfl rfl rfl ?_
  (refine Ops.nil (hK _ _ ?_); clear hK K)
  (first | refine Fn.ret1 HF rfl rfl ?_ | refine Fn.ret2 HF rfl rfl rfl ?_ | refine Fn.ret3 HF rfl rfl rfl rfl ?_ | refine Fn.ret0 HF rfl ?_ | refine Fn.fin0 HF rfl ?_ | refine Fn.retG (E := env) HF rfl H (by first | exact RVs.cellN rfl rfl rfl (by first | exact .head | exact .tail .head | exact .tail (.tail .head) | exact .tail (.tail (.tail .head)) | exact .tail (.tail (.tail (.tail .head))) | exact .tail (.tail (.tail (.tail (.tail .head)))) | exact .tail (.tail (.tail (.tail (.tail (.tail .head)))))) (by first | assumption | exact Cs.take rfl) RVs.nil | exact RVs.cellN rfl rfl rfl (by first | exact .head | exact .tail .head | exact .tail (.tail .head) | exact .tail (.tail (.tail .head)) | exact .tail (.tail (.tail (.tail .head))) | exact .tail (.tail (.tail (.tail (.tail .head)))) | exact .tail (.tail (.tail (.tail (.tail (.tail .head)))))) (by first | assumption | exact Cs.take rfl) (RVs.tmp rfl RVs.nil) | exact RVs.cellN rfl rfl rfl (by first | exact .head | exact .tail .head | exact .tail (.tail .head) | exact .tail (.tail (.tail .head)) | exact .tail (.tail (.tail (.tail .head))) | exact .tail (.tail (.tail (.tail (.tail .head)))) | exact .tail (.tail (.tail (.tail (.tail (.tail .head)))))) (by first | assumption | exact Cs.take rfl) (RVs.tmp rfl (RVs.tmp rfl RVs.nil))) rfl ?_)
  refine ⟨xs, hp, ?_, F2.then H.fr⟩
  rcases hO.ext H.fr with h | ⟨b, cap, cs, h1, h2, h3, h4, h5⟩
  · exact .inl h
  · exact .inr ⟨b, cap, cs, h1, h2, h3, by omega, h5⟩
theorem sorted_any (z : World) (xb mb k : Nat) (es : Array MapEntry) (hst : MapKept.Stamped es k) (hk : ∀ e ∈ es.toList, ∃ x, e.key = .int .u64 x) (hx : z.heap[xb]? = some (row [.map (some mb)] 55)) (hm : z.heap[mb]? = some (.map es k)) (hsz : es.size ≤ 1048576) :
    Fn env.P 54 [.func (.func 62) #[] #[.pointer (some ⟨xb, 0, none⟩)]] z fun v w' => ∃ ys : List Int, ys.Perm (es.toList.map fun e => kI e.key) ∧ ys.Pairwise (· ≤ ·) ∧ Ks w' v ys ∧ Fr z w' [] := by
  have H := Holds.start z []
  have HF := Try.func54; refine Fn.enter Try.func54 Try.ntmps54 rfl rfl rfl ?_
  refine Run.seq ?_
  (refine Run.region ?_; intro K hK)
  refine Ops.pure H (X.assign rfl) rfl rfl rfl ?_
  (refine Ops.nil (hK _ _ ?_); clear hK K)
  refine Run.seq ?_
  (refine Run.region ?_; intro K hK)
  refine Ops.pure H (X.move rfl) rfl rfl rfl ?_
  refine Ops.eff rfl (Y.call rfl rfl (by first | assumption | decide +kernel) rfl (collect_any _ xb mb k es hst hk (H.fr.get hx (by simp)) (H.fr.get hm (by simp)) hsz) rfl ?_)
  rintro v w2 ⟨xs, hp, hO, hf2⟩
  have F2 := H.fr.then hf2
  have hz := H.fr.size
  have hlen : xs.length = es.size := by rw [hp.length_eq]; simp
  rcases hO with ⟨h0, h1, rfl⟩ | ⟨b, cap, cs, rfl, h2, h3, h4, h5, h6, h7⟩
  · have hx0 : xs = [] := List.eq_nil_of_length_eq_zero h0
    subst hx0
    clear H
    have H := Holds.start w2 []
    refine Ops.pure H (X.assign rfl) rfl rfl rfl ?_
    (refine Ops.nil (hK _ _ ?_); clear hK K)
    refine Run.seq ?_
    (refine Run.region ?_; intro K hK)
    refine Ops.pure H (X.move rfl) rfl rfl rfl ?_
    refine Ops.eff rfl (Y.call rfl rfl (by first | assumption | decide +kernel) rfl (sort_nil _) rfl ?_)
    rintro v w3 hf3
    have F3 := F2.then (H.fr.then hf3)
    clear H
    have H := Holds.start w3 []
    (refine Ops.nil (hK _ _ ?_); clear hK K)
    refine Run.seq ?_
    (refine Run.region ?_; intro K hK)
    refine Ops.pure H (X.move rfl) rfl rfl rfl ?_
    refine Ops.pure H (X.assign rfl) rfl rfl rfl ?_
    (refine Ops.nil (hK _ _ ?_); clear hK K)
    (first | refine Fn.ret1 HF rfl rfl ?_ | refine Fn.ret2 HF rfl rfl rfl ?_ | refine Fn.ret3 HF rfl rfl rfl rfl ?_ | refine Fn.ret0 HF rfl ?_ | refine Fn.fin0 HF rfl ?_ | refine Fn.retG (E := env) HF rfl H (by first | exact RVs.cellN rfl rfl rfl (by first | exact .head | exact .tail .head | exact .tail (.tail .head) | exact .tail (.tail (.tail .head)) | exact .tail (.tail (.tail (.tail .head))) | exact .tail (.tail (.tail (.tail (.tail .head)))) | exact .tail (.tail (.tail (.tail (.tail (.tail .head)))))) (by first | assumption | exact Cs.take rfl) RVs.nil | exact RVs.cellN rfl rfl rfl (by first | exact .head | exact .tail .head | exact .tail (.tail .head) | exact .tail (.tail (.tail .head)) | exact .tail (.tail (.tail (.tail .head))) | exact .tail (.tail (.tail (.tail (.tail .head)))) | exact .tail (.tail (.tail (.tail (.tail (.tail .head)))))) (by first | assumption | exact Cs.take rfl) (RVs.tmp rfl RVs.nil) | exact RVs.cellN rfl rfl rfl (by first | exact .head | exact .tail .head | exact .tail (.tail .head) | exact .tail (.tail (.tail .head)) | exact .tail (.tail (.tail (.tail .head))) | exact .tail (.tail (.tail (.tail (.tail .head)))) | exact .tail (.tail (.tail (.tail (.tail (.tail .head)))))) (by first | assumption | exact Cs.take rfl) (RVs.tmp rfl (RVs.tmp rfl RVs.nil))) rfl ?_)
    exact ⟨[], hp, .nil, ⟨none, 0, rfl, fun h => absurd h (by simp)⟩, F3.then H.fr⟩
  · have hA : Ar w2 b 0 xs.toArray cs := ⟨h5, by simp; omega, fun i hi => by
      have hi' : i < xs.length := by simpa using hi
      have := h7.get i (.int .u64 xs[i]) (by simp [u64s, hi'])
      rw [Nat.mul_one, this]
      simp [hi']⟩
    have hbz : z.heap.size ≤ b := by omega
    clear H
    have H := Holds.start w2 []
    refine Ops.pure H (X.assign rfl) rfl rfl rfl ?_
    (refine Ops.nil (hK _ _ ?_); clear hK K)
    refine Run.seq ?_
    (refine Run.region ?_; intro K hK)
    refine Ops.pure H (X.move rfl) rfl rfl rfl ?_
    refine Ops.eff rfl (Y.call rfl rfl (by first | assumption | decide +kernel) rfl (sort_any _ b 0 cap xs.toArray cs (by simp) (hA.ext H.fr) (by omega)) rfl ?_)
    rintro v w3 ⟨d3, cs3, hA3, q1, q2, hf3⟩
    have F3 := F2.trans (U := []) (H.fr.trans (U := [b]) hf3 (by simp) (by simp)) (by simp) (fun x hx hl => by simp at hx; omega)
    have hd3 : d3.size = xs.length := by rw [q1.1]; simp
    clear H
    have H := Holds.start w3 []
    (refine Ops.nil (hK _ _ ?_); clear hK K)
    refine Run.seq ?_
    (refine Run.region ?_; intro K hK)
    refine Ops.pure H (X.move rfl) rfl rfl rfl ?_
    refine Ops.pure H (X.assign rfl) rfl rfl rfl ?_
    (refine Ops.nil (hK _ _ ?_); clear hK K)
    (first | refine Fn.ret1 HF rfl rfl ?_ | refine Fn.ret2 HF rfl rfl rfl ?_ | refine Fn.ret3 HF rfl rfl rfl rfl ?_ | refine Fn.ret0 HF rfl ?_ | refine Fn.fin0 HF rfl ?_ | refine Fn.retG (E := env) HF rfl H (by first | exact RVs.cellN rfl rfl rfl (by first | exact .head | exact .tail .head | exact .tail (.tail .head) | exact .tail (.tail (.tail .head)) | exact .tail (.tail (.tail (.tail .head))) | exact .tail (.tail (.tail (.tail (.tail .head)))) | exact .tail (.tail (.tail (.tail (.tail (.tail .head)))))) (by first | assumption | exact Cs.take rfl) RVs.nil | exact RVs.cellN rfl rfl rfl (by first | exact .head | exact .tail .head | exact .tail (.tail .head) | exact .tail (.tail (.tail .head)) | exact .tail (.tail (.tail (.tail .head))) | exact .tail (.tail (.tail (.tail (.tail .head)))) | exact .tail (.tail (.tail (.tail (.tail (.tail .head)))))) (by first | assumption | exact Cs.take rfl) (RVs.tmp rfl RVs.nil) | exact RVs.cellN rfl rfl rfl (by first | exact .head | exact .tail .head | exact .tail (.tail .head) | exact .tail (.tail (.tail .head)) | exact .tail (.tail (.tail (.tail .head))) | exact .tail (.tail (.tail (.tail (.tail .head)))) | exact .tail (.tail (.tail (.tail (.tail (.tail .head)))))) (by first | assumption | exact Cs.take rfl) (RVs.tmp rfl (RVs.tmp rfl RVs.nil))) rfl ?_)
    refine ⟨d3.toList, ?_, ?_, ⟨_, cap, by simp [hd3], fun _ => ⟨b, cs3, rfl, H.fr.get hA3.hb (by simp), ?_⟩⟩, F3.then H.fr⟩
    · refine List.Perm.trans ?_ hp
      have h8 := q1.2.2
      have h9 : d3.toList.take xs.length = d3.toList := List.take_of_length_le (by simp [hd3])
      simpa [h9] using h8
    · refine List.pairwise_iff_getElem.2 fun i j hi hj hij => ?_
      have hj' : j < xs.length := by simpa [hd3] using hj
      have := q2 i j (by omega) hij hj'
      simp only [decide_eq_false_iff_not] at this
      simp at hi hj
      rw [getElem!_pos d3 i hi, getElem!_pos d3 j hj] at this
      simp
      omega
    · refine Cs.ofGet _ _ _ (by simp [u64s]) fun j hj => ?_
      have hj' : j < d3.size := by simpa using hj
      have := hA3.hc j hj'
      rw [Nat.mul_one] at this
      rw [this, getElem!_pos d3 j hj']
      simp [u64s, hj']
end Go.Proofs.Ytaneenahapdabaa
