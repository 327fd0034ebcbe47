/- Walks of layer 6: the document's Send. -/
import Derived.Test.YtpmihcefjdeonaaQ6
namespace Go.Proofs.Ytpmihcefjdeonaa
open Go
set_option maxRecDepth 20000
set_option maxHeartbeats 2000000
attribute [local irreducible] Run Ops Fn Draw Draw2 PureOp StepZ

theorem rsend_any (z : World) (g : RG) (f t : Int) (bv : Value) (bs : List Int) (k : Nat) {rb : Nat} (hrb : g.rb = rb) (h : RN z g) (hok : g.abs.Ok k) (hk : k ≤ 4398046511000) (hbv : Bys z bv bs) : Fn env.P 27 [.pointer (some ⟨rb, 0, none⟩), .int .i64 f, .int .i64 t, bv] z (ROp z g (g.abs.sendE f t bs) (g.abs.send f t bs)) := by
  subst hrb
  have H := Holds.start z []
  have HF := Try.func27; refine Fn.enter Try.func27 Try.ntmps27 rfl rfl rfl ?_
  refine Run.seq ?_
  (refine Run.region ?_; intro K hK)
  refine Ops.pure H (X.assign rfl) rfl rfl rfl ?_
  (refine Ops.nil (hK _ _ ?_); clear hK K)
  refine Run.seq ?_
  refine Run.seq ?_
  (refine Run.region ?_; intro K hK)
  refine Ops.pure H (X.move rfl) rfl rfl rfl ?_
  refine Ops.pure H (X.move rfl) rfl rfl rfl ?_
  refine Ops.eff rfl (Y.call rfl rfl (by first | assumption | decide +kernel) rfl (node_any _ g t rfl h) rfl ?_)
  rintro v w1 ⟨rfl, rfl⟩
  cases ht : g.abs.isN t with
  | false =>
    refine Ops.pure H (X.not rfl) rfl rfl rfl ?_
    refine Ops.pure H (X.move rfl) rfl rfl rfl ?_
    refine Ops.pass rfl rfl rfl ?_
    refine Ops.pass rfl rfl rfl ?_
    refine Ops.pass rfl rfl rfl ?_
    refine Ops.pass rfl rfl rfl ?_
    refine Ops.pure H (X.pick_t rfl rfl) rfl rfl rfl ?_
    (refine Ops.nil (hK _ _ ?_); clear hK K)
    refine Run.cond_true rfl ?_
    refine Run.seq ?_
    (refine Run.region ?_; intro K hK)
    refine Ops.pure H (X.assign rfl) rfl rfl rfl ?_
    (refine Ops.nil (hK _ _ ?_); clear hK K)
    (first | refine Fn.ret1 HF rfl rfl ?_ | refine Fn.ret2 HF rfl rfl rfl ?_ | refine Fn.ret3 HF rfl rfl rfl rfl ?_ | refine Fn.ret0 HF rfl ?_ | refine Fn.fin0 HF rfl ?_ | refine Fn.retG (E := env) HF rfl H (by first | exact RVs.cellN rfl rfl rfl (by first | exact .head | exact .tail .head | exact .tail (.tail .head) | exact .tail (.tail (.tail .head)) | exact .tail (.tail (.tail (.tail .head))) | exact .tail (.tail (.tail (.tail (.tail .head)))) | exact .tail (.tail (.tail (.tail (.tail (.tail .head)))))) (by first | assumption | exact Cs.take rfl) RVs.nil | exact RVs.cellN rfl rfl rfl (by first | exact .head | exact .tail .head | exact .tail (.tail .head) | exact .tail (.tail (.tail .head)) | exact .tail (.tail (.tail (.tail .head))) | exact .tail (.tail (.tail (.tail (.tail .head)))) | exact .tail (.tail (.tail (.tail (.tail (.tail .head)))))) (by first | assumption | exact Cs.take rfl) (RVs.tmp rfl RVs.nil) | exact RVs.cellN rfl rfl rfl (by first | exact .head | exact .tail .head | exact .tail (.tail .head) | exact .tail (.tail (.tail .head)) | exact .tail (.tail (.tail (.tail .head))) | exact .tail (.tail (.tail (.tail (.tail .head)))) | exact .tail (.tail (.tail (.tail (.tail (.tail .head)))))) (by first | assumption | exact Cs.take rfl) (RVs.tmp rfl (RVs.tmp rfl RVs.nil))) rfl ?_)
    exact ⟨by simp [Ns.sendE, ht], g, .rfl' h H.fr, by simp [Ns.send, Ns.sendE, ht]⟩
  | true =>
  refine Ops.pure H (X.not rfl) rfl rfl rfl ?_
  refine Ops.pure H (X.move rfl) rfl rfl rfl ?_
  refine Ops.pure H (X.move rfl) rfl rfl rfl ?_
  refine Ops.pure H (X.move rfl) rfl rfl rfl ?_
  refine Ops.eff rfl (Y.call rfl rfl (by first | assumption | decide +kernel) rfl (rIs_any _ g f rfl h) rfl ?_)
  rintro v w1 ⟨rfl, rfl⟩
  cases hf : g.abs.there f with
  | false =>
    refine Ops.pure H (X.not rfl) rfl rfl rfl ?_
    refine Ops.pure H (X.pick_f rfl rfl) rfl rfl rfl ?_
    (refine Ops.nil (hK _ _ ?_); clear hK K)
    refine Run.cond_true rfl ?_
    refine Run.seq ?_
    (refine Run.region ?_; intro K hK)
    refine Ops.pure H (X.assign rfl) rfl rfl rfl ?_
    (refine Ops.nil (hK _ _ ?_); clear hK K)
    (first | refine Fn.ret1 HF rfl rfl ?_ | refine Fn.ret2 HF rfl rfl rfl ?_ | refine Fn.ret3 HF rfl rfl rfl rfl ?_ | refine Fn.ret0 HF rfl ?_ | refine Fn.fin0 HF rfl ?_ | refine Fn.retG (E := env) HF rfl H (by first | exact RVs.cellN rfl rfl rfl (by first | exact .head | exact .tail .head | exact .tail (.tail .head) | exact .tail (.tail (.tail .head)) | exact .tail (.tail (.tail (.tail .head))) | exact .tail (.tail (.tail (.tail (.tail .head)))) | exact .tail (.tail (.tail (.tail (.tail (.tail .head)))))) (by first | assumption | exact Cs.take rfl) RVs.nil | exact RVs.cellN rfl rfl rfl (by first | exact .head | exact .tail .head | exact .tail (.tail .head) | exact .tail (.tail (.tail .head)) | exact .tail (.tail (.tail (.tail .head))) | exact .tail (.tail (.tail (.tail (.tail .head)))) | exact .tail (.tail (.tail (.tail (.tail (.tail .head)))))) (by first | assumption | exact Cs.take rfl) (RVs.tmp rfl RVs.nil) | exact RVs.cellN rfl rfl rfl (by first | exact .head | exact .tail .head | exact .tail (.tail .head) | exact .tail (.tail (.tail .head)) | exact .tail (.tail (.tail (.tail .head))) | exact .tail (.tail (.tail (.tail (.tail .head)))) | exact .tail (.tail (.tail (.tail (.tail (.tail .head)))))) (by first | assumption | exact Cs.take rfl) (RVs.tmp rfl (RVs.tmp rfl RVs.nil))) rfl ?_)
    exact ⟨by simp [Ns.sendE, hf], g, .rfl' h H.fr, by simp [Ns.send, Ns.sendE, hf]⟩
  | true =>
  obtain ⟨f, rfl, hf1, _⟩ := there_iff.1 hf
  obtain ⟨t, rfl, ht1⟩ := isN_iff.1 ht
  replace hf1 : f < g.n := hf1
  replace ht1 : t < g.n := ht1
  obtain ⟨tv, yoff, ycap, ycs, xv, av, roff, rcap, rcs, sa, sc, a1, y1, y2, hrv, r1, r2, hsv, r3, n1, n2, n3⟩ := h.cell hf1 ht1
  have hS := h.sent f t hf1 ht1
  have hSb := h.sentb f t hf1 ht1
  rw [hsv] at hS
  have hb := hok.way (f, t)
  have hW0 := rabs_way g (f, t)
  generalize hW : g.way (f, t) = W at *
  rw [hW0] at hb
  simp only [absR, List.length_map] at hb
  have hsub : ((W.ss.length : Nat) : Int) - (W.told : Nat) = ((W.ss.length - W.told : Nat) : Int) := by omega
  obtain ⟨ba, bc, rfl⟩ : ∃ a cp, bv = .slice a bs.length cp := by obtain ⟨a, cp, _, _, _, _, _, h1, _⟩ := hbv; exact ⟨a, cp, h1⟩
  have hEE : g.abs.sendE (f : Nat) (t : Nat) bs = if 65536 < bs.length ∨ 4096 ≤ W.ss.length - W.told then 2 else 0 := by
    unfold Ns.sendE
    rw [if_pos ⟨hf, ht⟩, Int.toNat_natCast, Int.toNat_natCast, hW0]
    simp [absR]
  clear H
  have H := (((Holds.start w1 []).add false r1 (by simp) (by simp)).add false y1 (by simpa using n3.symm) (by simp)).add false a1 (by simpa using ⟨n1.symm, n2.symm⟩) (by simp)
  by_cases hl : 65536 < bs.length
  · have hE : g.abs.sendE (f : Nat) (t : Nat) bs = 2 := by rw [hEE, if_pos (.inl hl)]
    refine Ops.pure H (X.not rfl) rfl rfl rfl ?_
    refine Ops.pure H (X.pick_f rfl rfl) rfl rfl rfl ?_
    (refine Ops.nil (hK _ _ ?_); clear hK K)
    refine Run.cond_false rfl ?_
    refine Run.skip ?_
    refine Run.seq ?_
    (refine Run.region ?_; intro K hK)
    refine Ops.pure H (X.move rfl) rfl rfl rfl ?_
    refine Ops.pure H (X.nilCheck rfl) rfl rfl rfl ?_
    refine Ops.pure H (X.fieldAddr rfl rfl rfl rfl rfl rfl) rfl rfl rfl ?_
    refine Ops.pure H (X.load1 rfl rfl rfl rfl Pick.head rfl) rfl rfl rfl ?_
    refine Ops.pure H (X.move rfl) rfl rfl rfl ?_
    refine Ops.pure H (X.indexAddr rfl rfl (by omega) rfl rfl rfl rfl) rfl rfl rfl ?_
    refine Ops.pure H (X.load1 rfl rfl rfl rfl (.tail .head) (by assumption)) rfl rfl rfl ?_
    refine Ops.pure H (X.move rfl) rfl rfl rfl ?_
    refine Ops.pure H (X.indexAddr rfl rfl (by omega) rfl rfl rfl rfl) rfl rfl rfl ?_
    refine Ops.pure H (X.loadN rfl rfl rfl (.tail (.tail .head)) (by assumption)) rfl rfl rfl ?_
    (refine Ops.eff rfl (Y.alloc rfl rfl rfl H ?_); intro b9 w H0 hb9; clear H; have H := H0; clear H0)
    (refine Ops.eff rfl (Y.storeO rfl rfl rfl rfl rfl rfl H Upd.head rfl ?_); intro w H0; clear H; have H := H0; clear H0)
    (refine Ops.nil (hK _ _ ?_); clear hK K)
    refine Run.seq ?_
    refine Run.seq ?_
    (refine Run.region ?_; intro K hK)
    refine Ops.pure H (X.move rfl) rfl rfl rfl ?_
    refine Ops.pure H (X.len_slice rfl rfl rfl) rfl rfl rfl ?_
    refine Ops.pure H (X.cmp rfl rfl rfl) rfl rfl rfl ?_
    refine Ops.pure H (X.move rfl) rfl rfl rfl ?_
    refine Ops.split_dec rfl rfl (fun h34 => ?x0) (fun h34 => ?y0)
    case' y0 => exfalso; omega
    case' x0 =>
      refine Ops.pass rfl rfl rfl ?_
      refine Ops.pass rfl rfl rfl ?_
      refine Ops.pass rfl rfl rfl ?_
      refine Ops.pass rfl rfl rfl ?_
      refine Ops.pass rfl rfl rfl ?_
      refine Ops.pass rfl rfl rfl ?_
      refine Ops.pass rfl rfl rfl ?_
      refine Ops.pure H (X.pick_t rfl rfl) rfl rfl rfl ?_
      (refine Ops.nil (hK _ _ ?_); clear hK K)
      refine Run.cond_true rfl ?_
      refine Run.seq ?_
      (refine Run.region ?_; intro K hK)
      refine Ops.pure H (X.assign rfl) rfl rfl rfl ?_
      (refine Ops.nil (hK _ _ ?_); clear hK K)
    (first | refine Fn.ret1 HF rfl rfl ?_ | refine Fn.ret2 HF rfl rfl rfl ?_ | refine Fn.ret3 HF rfl rfl rfl rfl ?_ | refine Fn.ret0 HF rfl ?_ | refine Fn.fin0 HF rfl ?_ | refine Fn.retG (E := env) HF rfl H (by first | exact RVs.cellN rfl rfl rfl (by first | exact .head | exact .tail .head | exact .tail (.tail .head) | exact .tail (.tail (.tail .head)) | exact .tail (.tail (.tail (.tail .head))) | exact .tail (.tail (.tail (.tail (.tail .head)))) | exact .tail (.tail (.tail (.tail (.tail (.tail .head)))))) (by first | assumption | exact Cs.take rfl) RVs.nil | exact RVs.cellN rfl rfl rfl (by first | exact .head | exact .tail .head | exact .tail (.tail .head) | exact .tail (.tail (.tail .head)) | exact .tail (.tail (.tail (.tail .head))) | exact .tail (.tail (.tail (.tail (.tail .head)))) | exact .tail (.tail (.tail (.tail (.tail (.tail .head)))))) (by first | assumption | exact Cs.take rfl) (RVs.tmp rfl RVs.nil) | exact RVs.cellN rfl rfl rfl (by first | exact .head | exact .tail .head | exact .tail (.tail .head) | exact .tail (.tail (.tail .head)) | exact .tail (.tail (.tail (.tail .head))) | exact .tail (.tail (.tail (.tail (.tail .head)))) | exact .tail (.tail (.tail (.tail (.tail (.tail .head)))))) (by first | assumption | exact Cs.take rfl) (RVs.tmp rfl (RVs.tmp rfl RVs.nil))) rfl ?_)
    exact ⟨by rw [hE], g, .rfl' h H.fr, by rw [Ns.send, if_neg (by rw [hE]; decide)]⟩
  by_cases hs : 4096 ≤ W.ss.length - W.told
  · have hE : g.abs.sendE (f : Nat) (t : Nat) bs = 2 := by rw [hEE, if_pos (.inr hs)]
    refine Ops.pure H (X.not rfl) rfl rfl rfl ?_
    refine Ops.pure H (X.pick_f rfl rfl) rfl rfl rfl ?_
    (refine Ops.nil (hK _ _ ?_); clear hK K)
    refine Run.cond_false rfl ?_
    refine Run.skip ?_
    refine Run.seq ?_
    (refine Run.region ?_; intro K hK)
    refine Ops.pure H (X.move rfl) rfl rfl rfl ?_
    refine Ops.pure H (X.nilCheck rfl) rfl rfl rfl ?_
    refine Ops.pure H (X.fieldAddr rfl rfl rfl rfl rfl rfl) rfl rfl rfl ?_
    refine Ops.pure H (X.load1 rfl rfl rfl rfl Pick.head rfl) rfl rfl rfl ?_
    refine Ops.pure H (X.move rfl) rfl rfl rfl ?_
    refine Ops.pure H (X.indexAddr rfl rfl (by omega) rfl rfl rfl rfl) rfl rfl rfl ?_
    refine Ops.pure H (X.load1 rfl rfl rfl rfl (.tail .head) (by assumption)) rfl rfl rfl ?_
    refine Ops.pure H (X.move rfl) rfl rfl rfl ?_
    refine Ops.pure H (X.indexAddr rfl rfl (by omega) rfl rfl rfl rfl) rfl rfl rfl ?_
    refine Ops.pure H (X.loadN rfl rfl rfl (.tail (.tail .head)) (by assumption)) rfl rfl rfl ?_
    (refine Ops.eff rfl (Y.alloc rfl rfl rfl H ?_); intro b9 w H0 hb9; clear H; have H := H0; clear H0)
    (refine Ops.eff rfl (Y.storeO rfl rfl rfl rfl rfl rfl H Upd.head rfl ?_); intro w H0; clear H; have H := H0; clear H0)
    (refine Ops.nil (hK _ _ ?_); clear hK K)
    refine Run.seq ?_
    refine Run.seq ?_
    (refine Run.region ?_; intro K hK)
    refine Ops.pure H (X.move rfl) rfl rfl rfl ?_
    refine Ops.pure H (X.len_slice rfl rfl rfl) rfl rfl rfl ?_
    refine Ops.pure H (X.cmp rfl rfl rfl) rfl rfl rfl ?_
    refine Ops.pure H (X.move rfl) rfl rfl rfl ?_
    refine Ops.split_dec rfl rfl (fun h34 => ?x1) (fun h34 => ?y1)
    case' y1 =>
      refine Ops.pure H (X.fieldAddr rfl rfl rfl rfl rfl rfl) rfl rfl rfl ?_
      refine Ops.pure H (X.load1 rfl rfl rfl rfl Pick.head rfl) rfl rfl rfl ?_
      refine Ops.pure H (X.len_slice rfl rfl rfl) rfl rfl rfl ?_
      refine Ops.pure H (X.fieldAddr rfl rfl rfl rfl rfl rfl) rfl rfl rfl ?_
      refine Ops.pure H (X.load1 rfl rfl rfl rfl Pick.head rfl) rfl rfl rfl ?_
      refine Ops.pure H (X.sub_in rfl rfl (IntWalk.i64_in _ (by omega))) rfl rfl rfl ?_
      refine Ops.pure H (X.cmp rfl rfl rfl) rfl rfl rfl ?_
      refine Ops.pure H (X.pick_f rfl rfl) rfl rfl rfl ?_
      (refine Ops.nil (hK _ _ ?_); clear hK K)
      refine Run.cond_dec rfl (fun h41 => ?x2) (fun h41 => ?y2)
      case' y2 => exfalso; omega
      case' x2 =>
        refine Run.seq ?_
        (refine Run.region ?_; intro K hK)
        refine Ops.pure H (X.assign rfl) rfl rfl rfl ?_
        (refine Ops.nil (hK _ _ ?_); clear hK K)
    case' x1 => exfalso; omega
    (first | refine Fn.ret1 HF rfl rfl ?_ | refine Fn.ret2 HF rfl rfl rfl ?_ | refine Fn.ret3 HF rfl rfl rfl rfl ?_ | refine Fn.ret0 HF rfl ?_ | refine Fn.fin0 HF rfl ?_ | refine Fn.retG (E := env) HF rfl H (by first | exact RVs.cellN rfl rfl rfl (by first | exact .head | exact .tail .head | exact .tail (.tail .head) | exact .tail (.tail (.tail .head)) | exact .tail (.tail (.tail (.tail .head))) | exact .tail (.tail (.tail (.tail (.tail .head)))) | exact .tail (.tail (.tail (.tail (.tail (.tail .head)))))) (by first | assumption | exact Cs.take rfl) RVs.nil | exact RVs.cellN rfl rfl rfl (by first | exact .head | exact .tail .head | exact .tail (.tail .head) | exact .tail (.tail (.tail .head)) | exact .tail (.tail (.tail (.tail .head))) | exact .tail (.tail (.tail (.tail (.tail .head)))) | exact .tail (.tail (.tail (.tail (.tail (.tail .head)))))) (by first | assumption | exact Cs.take rfl) (RVs.tmp rfl RVs.nil) | exact RVs.cellN rfl rfl rfl (by first | exact .head | exact .tail .head | exact .tail (.tail .head) | exact .tail (.tail (.tail .head)) | exact .tail (.tail (.tail (.tail .head))) | exact .tail (.tail (.tail (.tail (.tail .head)))) | exact .tail (.tail (.tail (.tail (.tail (.tail .head)))))) (by first | assumption | exact Cs.take rfl) (RVs.tmp rfl (RVs.tmp rfl RVs.nil))) rfl ?_)
    exact ⟨by rw [hE], g, .rfl' h H.fr, by rw [Ns.send, if_neg (by rw [hE]; decide)]⟩
  have hE : g.abs.sendE (f : Nat) (t : Nat) bs = 0 := by rw [hEE, if_neg (by omega)]
  refine Ops.pure H (X.not rfl) rfl rfl rfl ?_
  refine Ops.pure H (X.pick_f rfl rfl) rfl rfl rfl ?_
  (refine Ops.nil (hK _ _ ?_); clear hK K)
  refine Run.cond_false rfl ?_
  refine Run.skip ?_
  refine Run.seq ?_
  (refine Run.region ?_; intro K hK)
  refine Ops.pure H (X.move rfl) rfl rfl rfl ?_
  refine Ops.pure H (X.nilCheck rfl) rfl rfl rfl ?_
  refine Ops.pure H (X.fieldAddr rfl rfl rfl rfl rfl rfl) rfl rfl rfl ?_
  refine Ops.pure H (X.load1 rfl rfl rfl rfl Pick.head rfl) rfl rfl rfl ?_
  refine Ops.pure H (X.move rfl) rfl rfl rfl ?_
  refine Ops.pure H (X.indexAddr rfl rfl (by omega) rfl rfl rfl rfl) rfl rfl rfl ?_
  refine Ops.pure H (X.load1 rfl rfl rfl rfl (.tail .head) (by assumption)) rfl rfl rfl ?_
  refine Ops.pure H (X.move rfl) rfl rfl rfl ?_
  refine Ops.pure H (X.indexAddr rfl rfl (by omega) rfl rfl rfl rfl) rfl rfl rfl ?_
  refine Ops.pure H (X.loadN rfl rfl rfl (.tail (.tail .head)) (by assumption)) rfl rfl rfl ?_
  (refine Ops.eff rfl (Y.alloc rfl rfl rfl H ?_); intro b9 w H0 hb9; clear H; have H := H0; clear H0)
  (refine Ops.eff rfl (Y.storeO rfl rfl rfl rfl rfl rfl H Upd.head rfl ?_); intro w H0; clear H; have H := H0; clear H0)
  (refine Ops.nil (hK _ _ ?_); clear hK K)
  refine Run.seq ?_
  refine Run.seq ?_
  (refine Run.region ?_; intro K hK)
  refine Ops.pure H (X.move rfl) rfl rfl rfl ?_
  refine Ops.pure H (X.len_slice rfl rfl rfl) rfl rfl rfl ?_
  refine Ops.pure H (X.cmp rfl rfl rfl) rfl rfl rfl ?_
  refine Ops.pure H (X.move rfl) rfl rfl rfl ?_
  refine Ops.split_dec rfl rfl (fun h34 => ?x3) (fun h34 => ?y3)
  case' y3 =>
    refine Ops.pure H (X.fieldAddr rfl rfl rfl rfl rfl rfl) rfl rfl rfl ?_
    refine Ops.pure H (X.load1 rfl rfl rfl rfl Pick.head rfl) rfl rfl rfl ?_
    refine Ops.pure H (X.len_slice rfl rfl rfl) rfl rfl rfl ?_
    refine Ops.pure H (X.fieldAddr rfl rfl rfl rfl rfl rfl) rfl rfl rfl ?_
    refine Ops.pure H (X.load1 rfl rfl rfl rfl Pick.head rfl) rfl rfl rfl ?_
    refine Ops.pure H (X.sub_in rfl rfl (IntWalk.i64_in _ (by omega))) rfl rfl rfl ?_
    refine Ops.pure H (X.cmp rfl rfl rfl) rfl rfl rfl ?_
    refine Ops.pure H (X.pick_f rfl rfl) rfl rfl rfl ?_
    (refine Ops.nil (hK _ _ ?_); clear hK K)
    refine Run.cond_dec rfl (fun h41 => ?x4) (fun h41 => ?y4)
    case' y4 =>
      refine Run.skip ?_
      refine Run.seq ?_
      (refine Run.region ?_; intro K hK)
      (refine Ops.eff rfl (Y.buildSliceO rfl rfl rfl rfl rfl rfl rfl rfl H ?_); intro b42 w H0 hb42; clear H; have H := H0; clear H0)
      refine Ops.pure H (X.fieldAddr rfl rfl rfl rfl rfl rfl) rfl rfl rfl ?_
      refine Ops.pure H (X.load1 rfl rfl rfl rfl (.tail .head) rfl) rfl rfl rfl ?_
    case' x4 => exfalso; omega
  case' x3 => exfalso; omega
  have hlG := H.ltG
  have hnd0 := H.nd
  simp at hnd0
  have q9 := lt_of_at (H.pick (b := b9) (by first | exact .head | exact .tail .head | exact .tail (.tail .head) | exact .tail (.tail (.tail .head)) | exact .tail (.tail (.tail (.tail .head))) | exact .tail (.tail (.tail (.tail (.tail .head)))) | exact .tail (.tail (.tail (.tail (.tail (.tail .head)))))))
  have q1 := lt_of_at (H.pick (b := g.rb) (by first | exact .head | exact .tail .head | exact .tail (.tail .head) | exact .tail (.tail (.tail .head)) | exact .tail (.tail (.tail (.tail .head))) | exact .tail (.tail (.tail (.tail (.tail .head)))) | exact .tail (.tail (.tail (.tail (.tail (.tail .head)))))))
  have q2 := lt_of_at (H.pick (b := g.yb) (by first | exact .head | exact .tail .head | exact .tail (.tail .head) | exact .tail (.tail (.tail .head)) | exact .tail (.tail (.tail (.tail .head))) | exact .tail (.tail (.tail (.tail (.tail .head)))) | exact .tail (.tail (.tail (.tail (.tail (.tail .head)))))))
  have q3 := lt_of_at (H.pick (b := g.rows f) (by first | exact .head | exact .tail .head | exact .tail (.tail .head) | exact .tail (.tail (.tail .head)) | exact .tail (.tail (.tail (.tail .head))) | exact .tail (.tail (.tail (.tail (.tail .head)))) | exact .tail (.tail (.tail (.tail (.tail (.tail .head)))))))
  have hsv1 : ∀ v ∈ W.ss.map (·.2), v.oneCell' = true := fun v hv => by obtain ⟨p, hp, rfl⟩ := List.mem_map.1 hv; exact (hSb p hp).one
  refine Ops.eff rfl (Y.copyOf2 (sz := 1) (news := W.ss.map (·.2)) rfl rfl rfl rfl rfl rfl H .head (by assumption) (by simp) ((hS.ext H.fr).src) rfl (by dsimp only; omega) (by omega) rfl ?_)
  intro v45 c45 w H hf45 L45 z45 e45
  obtain ⟨a45, cc45, rfl, _⟩ := L45.slice
  have hc45 := L45.lt rfl
  have hF45 := H.fr
  have hnd := H.nd
  have hlG2 := H.ltG
  simp at hnd
  have k9 := H.pick (b := b9) (by first | exact .head | exact .tail .head | exact .tail (.tail .head) | exact .tail (.tail (.tail .head)) | exact .tail (.tail (.tail (.tail .head))) | exact .tail (.tail (.tail (.tail (.tail .head)))) | exact .tail (.tail (.tail (.tail (.tail (.tail .head))))))
  replace H := H.anew (S' := [b9]) (G' := [⟨_, _, true⟩, ⟨_, _, false⟩, ⟨_, _, false⟩, ⟨_, _, false⟩]) (by repeat constructor) (by simp)
  (refine Ops.eff rfl (Y.buildSliceO rfl rfl rfl rfl rfl rfl rfl rfl H ?_); intro b46 w H0 hb46; clear H; have H := H0; clear H0)
  refine Ops.pure H (X.move rfl) rfl rfl rfl ?_
  have hnd2 := H.nd
  simp at hnd2
  have p9 := lt_of_at (H.pick (b := b9) (by first | exact .head | exact .tail .head | exact .tail (.tail .head) | exact .tail (.tail (.tail .head)) | exact .tail (.tail (.tail (.tail .head))) | exact .tail (.tail (.tail (.tail (.tail .head)))) | exact .tail (.tail (.tail (.tail (.tail (.tail .head)))))))
  have p1 := lt_of_at (H.pick (b := g.rb) (by first | exact .head | exact .tail .head | exact .tail (.tail .head) | exact .tail (.tail (.tail .head)) | exact .tail (.tail (.tail (.tail .head))) | exact .tail (.tail (.tail (.tail (.tail .head)))) | exact .tail (.tail (.tail (.tail (.tail (.tail .head)))))))
  have p2 := lt_of_at (H.pick (b := g.yb) (by first | exact .head | exact .tail .head | exact .tail (.tail .head) | exact .tail (.tail (.tail .head)) | exact .tail (.tail (.tail (.tail .head))) | exact .tail (.tail (.tail (.tail (.tail .head)))) | exact .tail (.tail (.tail (.tail (.tail (.tail .head)))))))
  have p3 := lt_of_at (H.pick (b := g.rows f) (by first | exact .head | exact .tail .head | exact .tail (.tail .head) | exact .tail (.tail (.tail .head)) | exact .tail (.tail (.tail (.tail .head))) | exact .tail (.tail (.tail (.tail (.tail .head)))) | exact .tail (.tail (.tail (.tail (.tail (.tail .head)))))))
  refine Ops.eff rfl (Y.copyOf2 (sz := 1) (news := u8s bs) rfl rfl rfl rfl rfl rfl H .head (by assumption) (by simp) ((hbv.ext (hF45.then (H.fr.drop1 (by rw [k9]; exact H.pick (b := b9) (by first | exact .head | exact .tail .head | exact .tail (.tail .head) | exact .tail (.tail (.tail .head)) | exact .tail (.tail (.tail (.tail .head))) | exact .tail (.tail (.tail (.tail (.tail .head)))) | exact .tail (.tail (.tail (.tail (.tail (.tail .head)))))))))).src) rfl (by dsimp only; omega) (by omega) rfl ?_)
  intro v47 c47 w H hf47 L47 z47 e47
  have hc47 := L47.lt rfl
  obtain ⟨ff, vc, cs47, rfl, l2, l3, l4, l5, l6⟩ := L47
  have hn47 : c47 ≠ b9 ∧ c47 ≠ g.rb ∧ c47 ≠ g.yb ∧ c47 ≠ g.rows f := by
    rcases e47 with e | e
    · rw [e]; exact hnd2.1
    · clear hnd hnd0 hnd2 e45; exact ⟨Nat.ne_of_gt (Nat.lt_of_lt_of_le p9 e), Nat.ne_of_gt (Nat.lt_of_lt_of_le p1 e), Nat.ne_of_gt (Nat.lt_of_lt_of_le p2 e), Nat.ne_of_gt (Nat.lt_of_lt_of_le p3 e)⟩
  clear hnd2 e47
  replace H := H.add false l4 (by simpa using hn47) (by simp)
  have hn45 : c45 ≠ b9 ∧ c45 ≠ g.rb ∧ c45 ≠ g.yb ∧ c45 ≠ g.rows f := by
    rcases e45 with e | e
    · rw [e]; exact hnd0.1
    · exact ⟨Nat.ne_of_gt (Nat.lt_of_lt_of_le q9 e), Nat.ne_of_gt (Nat.lt_of_lt_of_le q1 e), Nat.ne_of_gt (Nat.lt_of_lt_of_le q2 e), Nat.ne_of_gt (Nat.lt_of_lt_of_le q3 e)⟩
  clear e45 hnd0 q9 q1 q2 q3 p9 p1 p2 p3
  (refine Ops.eff rfl (Y.buildSliceO rfl rfl rfl rfl rfl rfl rfl rfl H ?_); intro b49 w H0 hb49; clear H; have H := H0; clear H0)
  refine Ops.eff rfl (Y.pushS (sz := 1) (news := [.slice (some ⟨c47, ff, none⟩) bs.length vc]) (L45.keep H.fr (fun b hb hm => by cases hb; exact hn45.1 (by simpa using hm))) rfl rfl rfl rfl rfl rfl H (fun e he => ?_) rfl (Src.row (m := 1) H .head (Cs.take rfl)) rfl (by simp [Value.oneCell']) (by dsimp only; omega) (by omega) rfl ?_)
  · simp at he
    rcases he with rfl | rfl | rfl | rfl | rfl | rfl <;> dsimp only
    · exact fun e => by omega
    · exact fun e => by omega
    · exact hn45.1
    · exact hn45.2.1
    · exact hn45.2.2.1
    · exact hn45.2.2.2
  have hszp := H.fr.size
  have hpre := H.fr
  intro sb soff scap scs w H hc1 hc2 hc3 hc4 hob
  refine Ops.pure H (X.fieldAddr rfl rfl rfl rfl rfl rfl) rfl rfl rfl ?_
  (refine Ops.eff rfl (Y.store1 rfl rfl rfl rfl rfl rfl H (.tail (.tail (.tail .head))) (by repeat (first | exact SetC.zero | apply SetC.succ)) ?_); intro w H0; clear H; have H := H0; clear H0)
  (refine Ops.nil (hK _ _ ?_); clear hK K)
  have hT := hF45.trans (U := []) H.fr (by simp) (fun x hx hl => by simp at hx; omega)
  have k9 := H.pick (b := b9) (by first | exact .head | exact .tail .head | exact .tail (.tail .head) | exact .tail (.tail (.tail .head)) | exact .tail (.tail (.tail (.tail .head))) | exact .tail (.tail (.tail (.tail (.tail .head)))) | exact .tail (.tail (.tail (.tail (.tail (.tail .head))))))
  have krb := H.pick (b := g.rb) (by first | exact .head | exact .tail .head | exact .tail (.tail .head) | exact .tail (.tail (.tail .head)) | exact .tail (.tail (.tail (.tail .head))) | exact .tail (.tail (.tail (.tail (.tail .head)))) | exact .tail (.tail (.tail (.tail (.tail (.tail .head))))))
  have kyb := H.pick (b := g.yb) (by first | exact .head | exact .tail .head | exact .tail (.tail .head) | exact .tail (.tail (.tail .head)) | exact .tail (.tail (.tail (.tail .head))) | exact .tail (.tail (.tail (.tail (.tail .head)))) | exact .tail (.tail (.tail (.tail (.tail (.tail .head))))))
  have kro := H.pick (b := g.rows f) (by first | exact .head | exact .tail .head | exact .tail (.tail .head) | exact .tail (.tail (.tail .head)) | exact .tail (.tail (.tail (.tail .head))) | exact .tail (.tail (.tail (.tail (.tail .head)))) | exact .tail (.tail (.tail (.tail (.tail (.tail .head))))))
  have ksb := H.pick .head
  have hsbw : w1.heap.size ≤ sb := by omega
  have hB47 : Bts w (.slice (some ⟨c47, ff, none⟩) bs.length vc) bs := ⟨_, vc, c47, ff, cs47, rfl, l2, l3, fun _ => ⟨rfl, H.pick (b := c47) (by first | exact .head | exact .tail .head | exact .tail (.tail .head) | exact .tail (.tail (.tail .head)) | exact .tail (.tail (.tail (.tail .head))) | exact .tail (.tail (.tail (.tail (.tail .head)))) | exact .tail (.tail (.tail (.tail (.tail (.tail .head)))))), by omega, l6.cast rfl (by omega) rfl⟩⟩
  clear H
  have H := (((Holds.start w [g.rows f]).add true kro (by simp) (by simp)).add false kyb (by simpa using n3.symm) (by simp)).add false krb (by simpa using ⟨n1.symm, n2.symm⟩) (by simp)
  replace H := H.add false k9 (by simp; omega) (by simp)
  refine Run.seq ?_
  (refine Run.draw H [10] [0, 1, 2, 3, 4, 5, 6, 7, 8, 9, 10] ?_; clear H; intro K hK w H)
  refine Draw.take0 rfl (X.move rfl) rfl rfl rfl (by decide +kernel) ?_
  refine Draw.take0 rfl (X.nilCheck rfl) rfl rfl rfl (by decide +kernel) ?_
  refine Draw.take0 rfl (X.fieldAddr rfl rfl rfl rfl rfl rfl) rfl rfl rfl (by decide +kernel) ?_
  refine Draw.take rfl (X.load1 rfl rfl rfl rfl (.tail .head) rfl) rfl rfl rfl (by decide +kernel) ?_
  refine Draw.take0 rfl (X.move rfl) rfl rfl rfl (by decide +kernel) ?_
  refine Draw.take0 rfl (X.indexAddr rfl rfl (by omega) rfl rfl rfl rfl) rfl rfl rfl (by decide +kernel) ?_
  refine Draw.take rfl (X.load1 rfl rfl rfl rfl (.tail (.tail .head)) (by assumption)) rfl rfl rfl (by decide +kernel) ?_
  refine Draw.take0 rfl (X.move rfl) rfl rfl rfl (by decide +kernel) ?_
  refine Draw.take rfl (X.loadN rfl rfl rfl Pick.head (Cs.take rfl)) rfl rfl rfl (by decide +kernel) ?_
  refine Draw.take0 rfl (X.indexAddr rfl rfl (by omega) rfl rfl rfl rfl) rfl rfl rfl (by decide +kernel) ?_
  refine Draw.last rfl rfl (by decide +kernel) (Y.storeN (vs := [.int .u64 (W.ep : Nat), .slice (some ⟨sb, soff, none⟩) (W.ss.length + 1) scap, .int .i64 (W.told : Nat), .int .i64 (W.came : Nat)]) rfl rfl rfl rfl rfl rfl H (.tail (.tail (.tail .head))) (by simp; omega) rfl ?_)
  intro w H
  (refine Draw2.done (by decide +kernel) (hK _ _ ?_); clear hK K)
  refine Run.seq ?_
  (refine Run.region ?_; intro K hK)
  refine Ops.pure H (X.move rfl) rfl rfl rfl ?_
  refine Ops.pure H (X.move rfl) rfl rfl rfl ?_
  refine Ops.pure H (X.move rfl) rfl rfl rfl ?_
  refine Ops.pure H (X.fieldAddr rfl rfl rfl rfl rfl rfl) rfl rfl rfl ?_
  refine Ops.pure H (X.load1 rfl rfl rfl rfl Pick.head rfl) rfl rfl rfl ?_
  refine Ops.pure H (X.len_slice rfl rfl rfl) rfl rfl rfl ?_
  have hTT := hT.trans (U := [g.rows f]) H.fr (by simp) (fun x hx _ => hx)
  have h5 : ∀ b ∈ [g.rows f], ∀ cs, w1.heap[b]? ≠ some (row cs 5) := by intro b hb; simp at hb; subst hb; exact not5 r1 (by decide)
  have st := h.setWay (c := ⟨W.ep, W.told, W.came, .slice (some ⟨sb, soff, none⟩) (W.ss.length + 1) scap, some sb, W.ss ++ [(bs, .slice (some ⟨c47, ff, none⟩) bs.length vc)]⟩) hf1 ht1 hTT hrv r1 (H.pick (b := g.rows f) (by first | exact .head | exact .tail .head | exact .tail (.tail .head) | exact .tail (.tail (.tail .head)) | exact .tail (.tail (.tail (.tail .head))) | exact .tail (.tail (.tail (.tail (.tail .head)))) | exact .tail (.tail (.tail (.tail (.tail (.tail .head))))))) ⟨soff, scap, scs, by simp, by simpa using hc1, hc2, H.fr.get ksb (by simpa using ne_of_ty ksb kro (by decide)), hc3, hc4.cast rfl (by simp) (by simp)⟩ (fun p hp => by
    simp at hp
    rcases hp with hp | rfl
    · exact ⟨(hSb p hp).keepT hTT h5, fun b hb => .inl (.inr (.inr ⟨f, t, p, hf1, ht1, by rw [hW]; exact hp, hb⟩))⟩
    · refine ⟨hB47.keepT H.fr (by intro b hb; simp at hb; subst hb; exact not5 kro (by decide)), fun b hb => .inr ?_⟩
      have := hF45.size
      simp only [blkV] at hb
      split at hb <;> cases hb
      omega) (fun b hb => by cases hb; exact .inr hsbw)
  have hab2 : RG.abs { g with way := upda g.way (f, t) ⟨W.ep, W.told, W.came, .slice (some ⟨sb, soff, none⟩) (W.ss.length + 1) scap, some sb, W.ss ++ [(bs, .slice (some ⟨c47, ff, none⟩) bs.length vc)]⟩ } = g.abs.setW (f, t) ⟨W.ep, W.ss.map (·.1) ++ [bs], W.told, W.came⟩ := by rw [rabs_upda]; simp [absR]
  have hw2 : (({ g with way := upda g.way (f, t) ⟨W.ep, W.told, W.came, .slice (some ⟨sb, soff, none⟩) (W.ss.length + 1) scap, some sb, W.ss ++ [(bs, .slice (some ⟨c47, ff, none⟩) bs.length vc)]⟩ } : RG).way (f, t)).ss.length = W.ss.length + 1 := by dsimp only; rw [upda_self]; simp
  have hair2 : ({ g with way := upda g.way (f, t) ⟨W.ep, W.told, W.came, .slice (some ⟨sb, soff, none⟩) (W.ss.length + 1) scap, some sb, W.ss ++ [(bs, .slice (some ⟨c47, ff, none⟩) bs.length vc)]⟩ } : RG).air = g.air := rfl
  generalize ({ g with way := upda g.way (f, t) ⟨W.ep, W.told, W.came, .slice (some ⟨sb, soff, none⟩) (W.ss.length + 1) scap, some sb, W.ss ++ [(bs, .slice (some ⟨c47, ff, none⟩) bs.length vc)]⟩ } : RG) = g2 at st hab2 hw2 hair2
  have hok1 := hok.fly.1
  refine Ops.eff rfl (Y.call rfl rfl (by first | assumption | decide +kernel) rfl (message_any _ g2 f t (W.ss.length + 1) st.rb st.ok (by rw [st.n]; exact hf1) (by rw [st.n]; exact ht1) (by omega) (by omega) (by omega) (by rw [hair2, ← rfly_len]; exact hok1)) rfl ?_)
  rintro v w2 ⟨g3, st3, hab3, _⟩
  replace st3 := st.trans st3
  clear H
  have H := Holds.start w2 []
  (refine Ops.nil (hK _ _ ?_); clear hK K)
  refine Run.seq ?_
  (refine Run.region ?_; intro K hK)
  refine Ops.pure H (X.assign rfl) rfl rfl rfl ?_
  (refine Ops.nil (hK _ _ ?_); clear hK K)
  (first | refine Fn.ret1 HF rfl rfl ?_ | refine Fn.ret2 HF rfl rfl rfl ?_ | refine Fn.ret3 HF rfl rfl rfl rfl ?_ | refine Fn.ret0 HF rfl ?_ | refine Fn.fin0 HF rfl ?_ | refine Fn.retG (E := env) HF rfl H (by first | exact RVs.cellN rfl rfl rfl (by first | exact .head | exact .tail .head | exact .tail (.tail .head) | exact .tail (.tail (.tail .head)) | exact .tail (.tail (.tail (.tail .head))) | exact .tail (.tail (.tail (.tail (.tail .head)))) | exact .tail (.tail (.tail (.tail (.tail (.tail .head)))))) (by first | assumption | exact Cs.take rfl) RVs.nil | exact RVs.cellN rfl rfl rfl (by first | exact .head | exact .tail .head | exact .tail (.tail .head) | exact .tail (.tail (.tail .head)) | exact .tail (.tail (.tail (.tail .head))) | exact .tail (.tail (.tail (.tail (.tail .head)))) | exact .tail (.tail (.tail (.tail (.tail (.tail .head)))))) (by first | assumption | exact Cs.take rfl) (RVs.tmp rfl RVs.nil) | exact RVs.cellN rfl rfl rfl (by first | exact .head | exact .tail .head | exact .tail (.tail .head) | exact .tail (.tail (.tail .head)) | exact .tail (.tail (.tail (.tail .head))) | exact .tail (.tail (.tail (.tail (.tail .head)))) | exact .tail (.tail (.tail (.tail (.tail (.tail .head)))))) (by first | assumption | exact Cs.take rfl) (RVs.tmp rfl (RVs.tmp rfl RVs.nil))) rfl ?_)
  refine ⟨by rw [hE], g3, st3.ext H.fr, ?_⟩
  rw [hab3, hab2, Ns.send, if_pos hE, Int.toNat_natCast, Int.toNat_natCast]
  unfold Ns.send1 Ns.msg
  rw [hW0]
  simp [absR, Ns.setW]
end Go.Proofs.Ytpmihcefjdeonaa
