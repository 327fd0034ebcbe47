/- Layer 20: a window's clients. -/
import Derived.Test.YtaneenahapdabaaSM
namespace Go.Proofs.Ytaneenahapdabaa
open Go
set_option maxRecDepth 20000
set_option maxHeartbeats 2000000
attribute [local irreducible] Run Ops Fn Draw Draw2 PureOp StepZ

theorem known_any (z : World) (W : WS) (h : Wn z W) (hN : W.N ≤ 1048576) : Fn env.P 42 [.pointer (some ⟨W.wb, 0, none⟩)] z fun v w' => ∃ ys : List Int, (∀ x, x ∈ ys ↔ (W.m x).isSome = true) ∧ ys.Pairwise (· < ·) ∧ ys.length = W.N ∧ Ks w' v ys ∧ Fr z w' [] := by
  obtain ⟨es, k, f, h2, h3, h4, h5⟩ := h.mp
  have hst := h.stp es k h2
  have hkf : ∀ e ∈ es.toList, ∃ x, e.key = .int .u64 x ∧ f x = some e.val := fun e he => by
    obtain ⟨i, hi⟩ := List.getElem?_of_mem he
    exact h3.key i e (by simpa using hi)
  have hke : ∀ e ∈ es.toList, ∃ x, e.key = .int .u64 x := fun e he => (hkf e he).imp fun _ h => h.1
  have H := (Holds.start z []).add false h.at_ (by simp) (by simp)
  have HF := Try.func42; refine Fn.enter Try.func42 Try.ntmps42 rfl rfl rfl ?_
  refine Run.seq ?_
  (refine Run.region ?_; intro K hK)
  refine Ops.pure H (X.assign rfl) rfl rfl rfl ?_
  (refine Ops.nil (hK _ _ ?_); clear hK K)
  refine Run.seq ?_
  (refine Run.region ?_; intro K hK)
  refine Ops.pure H (X.move rfl) rfl rfl rfl ?_
  refine Ops.pure H (X.nilCheck rfl) rfl rfl rfl ?_
  refine Ops.pure H (X.fieldAddr rfl rfl rfl rfl rfl rfl) rfl rfl rfl ?_
  refine Ops.pure H (X.load1 rfl rfl rfl rfl Pick.head rfl) rfl rfl rfl ?_
  refine Ops.eff rfl (Y.call rfl rfl (by first | assumption | decide +kernel) rfl (keys_any _ W.mb) rfl ?_)
  rintro v w2 ⟨xb, rfl, hx, hf2, hxz⟩
  have F2 := H.fr.then hf2
  have hm2 := F2.get h2 (by simp)
  clear H
  have H := Holds.start w2 []
  skip
  refine Ops.eff rfl (Y.call rfl rfl (by first | assumption | decide +kernel) rfl (sorted_any _ xb W.mb k es hst hke (H.fr.get hx (by simp)) (H.fr.get hm2 (by simp)) (by omega)) rfl ?_)
  rintro v w3 ⟨ys, hp, hs, hq, hf3⟩
  have F3 := F2.then (H.fr.then hf3)
  clear H
  have H := Holds.start w3 []
  refine Ops.pure H (X.assign rfl) rfl rfl rfl ?_
  (refine Ops.nil (hK _ _ ?_); clear hK K)
  (first | refine Fn.ret1 HF rfl rfl ?_ | refine Fn.ret2 HF rfl rfl rfl ?_ | refine Fn.ret3 HF rfl rfl rfl rfl ?_ | refine Fn.ret0 HF rfl ?_ | refine Fn.fin0 HF rfl ?_ | refine Fn.retG (E := env) HF rfl H (by first | exact RVs.cellN rfl rfl rfl (by first | exact .head | exact .tail .head | exact .tail (.tail .head) | exact .tail (.tail (.tail .head)) | exact .tail (.tail (.tail (.tail .head))) | exact .tail (.tail (.tail (.tail (.tail .head)))) | exact .tail (.tail (.tail (.tail (.tail (.tail .head)))))) (by first | assumption | exact Cs.take rfl) RVs.nil | exact RVs.cellN rfl rfl rfl (by first | exact .head | exact .tail .head | exact .tail (.tail .head) | exact .tail (.tail (.tail .head)) | exact .tail (.tail (.tail (.tail .head))) | exact .tail (.tail (.tail (.tail (.tail .head)))) | exact .tail (.tail (.tail (.tail (.tail (.tail .head)))))) (by first | assumption | exact Cs.take rfl) (RVs.tmp rfl RVs.nil) | exact RVs.cellN rfl rfl rfl (by first | exact .head | exact .tail .head | exact .tail (.tail .head) | exact .tail (.tail (.tail .head)) | exact .tail (.tail (.tail (.tail .head))) | exact .tail (.tail (.tail (.tail (.tail .head)))) | exact .tail (.tail (.tail (.tail (.tail (.tail .head)))))) (by first | assumption | exact Cs.take rfl) (RVs.tmp rfl (RVs.tmp rfl RVs.nil))) rfl ?_)
  have hnd : (es.toList.map fun e => kI e.key).Nodup := by
    rw [List.nodup_iff_pairwise_ne, List.pairwise_map]
    have h6 := hst.2.2
    rw [List.nodup_iff_pairwise_ne, List.pairwise_map] at h6
    refine h6.imp_of_mem fun {a b} ha hb hab hh => hab ?_
    obtain ⟨x, hx⟩ := hke a ha
    obtain ⟨y, hy⟩ := hke b hb
    rw [hx, hy] at hh ⊢
    simp only [kI] at hh
    rw [hh]
  refine ⟨ys, fun x => ?_, ?_, ?_, hq.ext H.fr, F3.then H.fr⟩
  · rw [hp.mem_iff, List.mem_map]
    constructor
    · rintro ⟨e, he, rfl⟩
      obtain ⟨x, hx, hv⟩ := hkf e he
      rw [hx]
      simp only [kI]
      rw [h5] at hv
      cases hc : W.m x with
      | none => rw [hc] at hv; cases hv
      | some c => rfl
    · intro hx
      obtain ⟨c, hc⟩ := Option.isSome_iff_exists.1 hx
      obtain ⟨i, e, h6, h7, _⟩ := h3.has x (.pointer (some ⟨c.cb, 0, none⟩)) (by rw [h5, hc]; rfl)
      exact ⟨e, by simpa using List.mem_of_getElem? (by simpa using h6 : es.toList[i]? = some e), by rw [h7]; rfl⟩
  · have hn := hp.nodup_iff.2 hnd
    rw [List.nodup_iff_pairwise_ne] at hn
    exact (hs.and hn).imp fun {a b} ⟨h1, h2⟩ => by omega
  · rw [hp.length_eq]
    simpa using h4
end Go.Proofs.Ytaneenahapdabaa
