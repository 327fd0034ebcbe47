/- Walks of layer 6: Deliver, Recv, Down. -/
import Derived.Test.YtpmihcefjdeonaaNA
namespace Go.Proofs.Ytpmihcefjdeonaa
open Go
set_option maxRecDepth 20000
set_option maxHeartbeats 2000000
attribute [local irreducible] Run Ops Fn Draw Draw2 PureOp StepZ

def Ns.deliver (s : Ns) (i : Int) : Ns :=
  if s.inF i then (if s.up (s.fly.getD i.toNat pk0).to then (s.lose i).comes (s.fly.getD i.toNat pk0) else s.lose i) else s
theorem Ns.Ok.lose {s : Ns} {k : Nat} (h : s.Ok k) (i : Int) : (s.lose i).Ok k := by
  unfold Ns.lose
  split
  · refine ⟨h.way, ⟨?_, fun p hp => h.fly.2 p (List.mem_of_mem_eraseIdx hp)⟩, h.box⟩
    have := h.fly.1
    have := List.length_eraseIdx_le s.fly i.toNat
    dsimp only
    omega
  · exact h
theorem deliver_any (z : World) (g : PG) (i : Int) (k : Nat) (h : PN z g) (hok : g.abs.Ok k) (hk : k ≤ 4398046511000) : Fn env.P 13 [.pointer (some ⟨g.nb, 0, none⟩), .int .i64 i] z (POp z g (g.abs.flE i) (g.abs.deliver i)) := by
  have hfl : g.fly.length ≤ 4096 := by rw [← fly_len]; exact hok.fly.1
  have H := Holds.start z []
  have HF := Try.func13; refine Fn.enter Try.func13 Try.ntmps13 rfl rfl rfl ?_
  refine Run.seq ?_
  (refine Run.region ?_; intro K hK)
  refine Ops.pure H (X.assign rfl) rfl rfl rfl ?_
  (refine Ops.nil (hK _ _ ?_); clear hK K)
  refine Run.seq ?_
  (refine Run.region ?_; intro K hK)
  refine Ops.pure H (X.move rfl) rfl rfl rfl ?_
  refine Ops.pure H (X.move rfl) rfl rfl rfl ?_
  refine Ops.eff rfl (Y.call rfl rfl (by first | assumption | decide +kernel) rfl (take_any _ g i (h.ext H.fr) hfl) rfl ?_)
  rintro v w2 (⟨hno, rfl, hf⟩ | ⟨j, ⟨pk, pv⟩, g', rfl, hpk, rfl, st, hab, hway, hbox, hfl', hB, hBI⟩)
  · replace H := H.ext hf
    unfold pkC pk0
    have hin : g.abs.inF i = false := by simp only [Ns.inF, fly_len]; exact decide_eq_false hno
    refine Ops.pure H (X.move rfl) rfl rfl rfl ?_
    refine Ops.pure H (X.extract rfl rfl) rfl rfl rfl ?_
    refine Ops.pure H (X.extract rfl rfl) rfl rfl rfl ?_
    (refine Ops.eff rfl (Y.alloc rfl rfl rfl H ?_); intro b5 w H0 hb5; clear H; have H := H0; clear H0)
    (refine Ops.eff rfl (Y.storeO rfl rfl rfl rfl rfl rfl H Upd.head rfl ?_); intro w H0; clear H; have H := H0; clear H0)
    refine Ops.pure H (X.assign rfl) rfl rfl rfl ?_
    (refine Ops.nil (hK _ _ ?_); clear hK K)
    refine Run.seq ?_
    refine Run.seq ?_
    (refine Run.region ?_; intro K hK)
    refine Ops.pure H (X.move rfl) rfl rfl rfl ?_
    refine Ops.pure H (X.not rfl) rfl rfl rfl ?_
    (refine Ops.nil (hK _ _ ?_); clear hK K)
    refine Run.cond_true rfl ?_
    refine Run.seq ?_
    (refine Run.region ?_; intro K hK)
    refine Ops.pure H (X.assign rfl) rfl rfl rfl ?_
    (refine Ops.nil (hK _ _ ?_); clear hK K)
    (first | refine Fn.ret1 HF rfl rfl ?_ | refine Fn.ret2 HF rfl rfl rfl ?_ | refine Fn.ret3 HF rfl rfl rfl rfl ?_ | refine Fn.ret0 HF rfl ?_ | refine Fn.fin0 HF rfl ?_ | refine Fn.retG (E := env) HF rfl H (by first | exact RVs.cellN rfl rfl rfl (by first | exact .head | exact .tail .head | exact .tail (.tail .head) | exact .tail (.tail (.tail .head)) | exact .tail (.tail (.tail (.tail .head))) | exact .tail (.tail (.tail (.tail (.tail .head)))) | exact .tail (.tail (.tail (.tail (.tail (.tail .head)))))) (by first | assumption | exact Cs.take rfl) RVs.nil | exact RVs.cellN rfl rfl rfl (by first | exact .head | exact .tail .head | exact .tail (.tail .head) | exact .tail (.tail (.tail .head)) | exact .tail (.tail (.tail (.tail .head))) | exact .tail (.tail (.tail (.tail (.tail .head)))) | exact .tail (.tail (.tail (.tail (.tail (.tail .head)))))) (by first | assumption | exact Cs.take rfl) (RVs.tmp rfl RVs.nil) | exact RVs.cellN rfl rfl rfl (by first | exact .head | exact .tail .head | exact .tail (.tail .head) | exact .tail (.tail (.tail .head)) | exact .tail (.tail (.tail (.tail .head))) | exact .tail (.tail (.tail (.tail (.tail .head)))) | exact .tail (.tail (.tail (.tail (.tail (.tail .head)))))) (by first | assumption | exact Cs.take rfl) (RVs.tmp rfl (RVs.tmp rfl RVs.nil))) rfl ?_)
    exact ⟨by simp [Ns.flE, hin], g, .rfl' h H.fr, by simp [Ns.deliver, hin]⟩
  · have hnpf : ∀ b, blkV pv = some b → ¬ PF g' b := fun b hb => st.nPF ((h.ext H.fr).ltI (hBI b hb)) ((h.ext H.fr).pfpi (hBI b hb))
    replace st := st.pre h H.fr
    obtain ⟨pa, pc, hpv⟩ := hB.slice
    dsimp only at hpv
    subst hpv
    have hk' : j < g.fly.length := (List.getElem?_eq_some_iff.1 hpk).1
    have hin : g.abs.inF (j : Nat) = true := by simp only [Ns.inF, fly_len]; exact decide_eq_true (by omega)
    have hpg : g.abs.fly.getD j pk0 = pk := by rw [abs_fly, List.getD_eq_getElem?_getD, List.getElem?_map, hpk]; rfl
    have hpm : pk ∈ g.abs.fly := by rw [abs_fly]; exact List.mem_map.2 ⟨_, List.mem_of_getElem? hpk, rfl⟩
    obtain ⟨o1, o2, o3, o4, o5⟩ := hok.fly.2 pk hpm
    have hlo : g'.abs = g.abs.lose (j : Nat) := by rw [hab]; simp [Ns.lose, hin]
    obtain ⟨cu, cx, fv, a1, a2, a3, _⟩ := st.ok.net
    obtain ⟨us, u1, u2, u3⟩ := st.ok.upr
    rw [st.nb] at a1
    rw [st.n] at a1 a2 u3
    have hcu : us[0 + pk.to * 1]? = some (.bool (g'.up pk.to)) := by rw [Nat.zero_add, Nat.mul_one]; exact u3 _ o2
    have hup : g'.up pk.to = g.abs.up pk.to := by rw [← abs_up, hab]
    unfold pkC
    have o2' : pk.to < g.n := o2
    clear H
    have H := ((Holds.start w2 []).add false u1 (by simp) (by simp)).add false a1 (by simpa using ne_of_ty a1 u1 (by decide)) (by simp)
    cases hu : g'.up pk.to with
    | true =>
      rw [hu] at hcu hup
      refine Ops.pure H (X.move rfl) rfl rfl rfl ?_
      refine Ops.pure H (X.extract rfl rfl) rfl rfl rfl ?_
      refine Ops.pure H (X.extract rfl rfl) rfl rfl rfl ?_
      (refine Ops.eff rfl (Y.alloc rfl rfl rfl H ?_); intro b5 w H0 hb5; clear H; have H := H0; clear H0)
      (refine Ops.eff rfl (Y.storeO rfl rfl rfl rfl rfl rfl H Upd.head rfl ?_); intro w H0; clear H; have H := H0; clear H0)
      refine Ops.pure H (X.assign rfl) rfl rfl rfl ?_
      (refine Ops.nil (hK _ _ ?_); clear hK K)
      refine Run.seq ?_
      refine Run.seq ?_
      (refine Run.region ?_; intro K hK)
      refine Ops.pure H (X.move rfl) rfl rfl rfl ?_
      refine Ops.pure H (X.not rfl) rfl rfl rfl ?_
      (refine Ops.nil (hK _ _ ?_); clear hK K)
      refine Run.cond_false rfl ?_
      refine Run.skip ?_
      refine Run.seq ?_
      refine Run.seq ?_
      (refine Run.draw H [] [0, 1, 2, 3, 4, 5, 6, 7] ?_; clear H; intro K hK w H)
      refine Draw.take0 rfl (X.move rfl) rfl rfl rfl (by decide +kernel) ?_
      refine Draw.take0 rfl (X.nilCheck rfl) rfl rfl rfl (by decide +kernel) ?_
      refine Draw.take0 rfl (X.fieldAddr rfl rfl rfl rfl rfl rfl) rfl rfl rfl (by decide +kernel) ?_
      refine Draw.take rfl (X.load1 rfl rfl rfl rfl (.tail .head) rfl) rfl rfl rfl (by decide +kernel) ?_
      refine Draw.take0 rfl (X.fieldAddr rfl rfl rfl rfl rfl rfl) rfl rfl rfl (by decide +kernel) ?_
      refine Draw.take rfl (X.load1 rfl rfl rfl rfl Pick.head rfl) rfl rfl rfl (by decide +kernel) ?_
      refine Draw.take0 rfl (X.indexAddr rfl rfl (by omega) rfl rfl rfl rfl) rfl rfl rfl (by decide +kernel) ?_
      refine Draw.take rfl (X.load1 rfl rfl rfl rfl (.tail (.tail .head)) (by assumption)) rfl rfl rfl (by decide +kernel) ?_
      (refine Draw.done (by decide +kernel) (hK _ _ ?_); clear hK K)
      refine Run.cond_true rfl ?_
      (refine Run.region ?_; intro K hK)
      refine Ops.pure H (X.move rfl) rfl rfl rfl ?_
      refine Ops.pure H (X.loadN rfl rfl rfl Pick.head (Cs.take rfl)) rfl rfl rfl ?_
      refine Ops.eff rfl (Y.call rfl rfl (by first | assumption | decide +kernel) rfl (comes_any _ g' pk (.slice pa pk.b.length pc) k st.nb (st.ok.ext H.fr) (by rw [hlo]; exact hok.lose _) hk (hB.ext H.fr) o3 (by rw [st.n]; exact ⟨o1, o2⟩) o4 o5 hnpf) rfl ?_)
      rintro v w3 ⟨g2, st2, hab2⟩
      replace st2 := st.trans (.pre st.ok H.fr st2)
      clear H
      have H := Holds.start w3 []
      (refine Ops.nil (hK _ _ ?_); clear hK K)
      refine Run.seq ?_
      (refine Run.region ?_; intro K hK)
      refine Ops.pure H (X.assign rfl) rfl rfl rfl ?_
      (refine Ops.nil (hK _ _ ?_); clear hK K)
      (first | refine Fn.ret1 HF rfl rfl ?_ | refine Fn.ret2 HF rfl rfl rfl ?_ | refine Fn.ret3 HF rfl rfl rfl rfl ?_ | refine Fn.ret0 HF rfl ?_ | refine Fn.fin0 HF rfl ?_ | refine Fn.retG (E := env) HF rfl H (by first | exact RVs.cellN rfl rfl rfl (by first | exact .head | exact .tail .head | exact .tail (.tail .head) | exact .tail (.tail (.tail .head)) | exact .tail (.tail (.tail (.tail .head))) | exact .tail (.tail (.tail (.tail (.tail .head)))) | exact .tail (.tail (.tail (.tail (.tail (.tail .head)))))) (by first | assumption | exact Cs.take rfl) RVs.nil | exact RVs.cellN rfl rfl rfl (by first | exact .head | exact .tail .head | exact .tail (.tail .head) | exact .tail (.tail (.tail .head)) | exact .tail (.tail (.tail (.tail .head))) | exact .tail (.tail (.tail (.tail (.tail .head)))) | exact .tail (.tail (.tail (.tail (.tail (.tail .head)))))) (by first | assumption | exact Cs.take rfl) (RVs.tmp rfl RVs.nil) | exact RVs.cellN rfl rfl rfl (by first | exact .head | exact .tail .head | exact .tail (.tail .head) | exact .tail (.tail (.tail .head)) | exact .tail (.tail (.tail (.tail .head))) | exact .tail (.tail (.tail (.tail (.tail .head)))) | exact .tail (.tail (.tail (.tail (.tail (.tail .head)))))) (by first | assumption | exact Cs.take rfl) (RVs.tmp rfl (RVs.tmp rfl RVs.nil))) rfl ?_)
      refine ⟨by simp [Ns.flE, hin], g2, st2.ext H.fr, ?_⟩
      rw [hab2, hlo]
      unfold Ns.deliver
      rw [if_pos hin, Int.toNat_natCast, hpg, ← hup, if_pos rfl]
    | false =>
      rw [hu] at hcu hup
      refine Ops.pure H (X.move rfl) rfl rfl rfl ?_
      refine Ops.pure H (X.extract rfl rfl) rfl rfl rfl ?_
      refine Ops.pure H (X.extract rfl rfl) rfl rfl rfl ?_
      (refine Ops.eff rfl (Y.alloc rfl rfl rfl H ?_); intro b5 w H0 hb5; clear H; have H := H0; clear H0)
      (refine Ops.eff rfl (Y.storeO rfl rfl rfl rfl rfl rfl H Upd.head rfl ?_); intro w H0; clear H; have H := H0; clear H0)
      refine Ops.pure H (X.assign rfl) rfl rfl rfl ?_
      (refine Ops.nil (hK _ _ ?_); clear hK K)
      refine Run.seq ?_
      refine Run.seq ?_
      (refine Run.region ?_; intro K hK)
      refine Ops.pure H (X.move rfl) rfl rfl rfl ?_
      refine Ops.pure H (X.not rfl) rfl rfl rfl ?_
      (refine Ops.nil (hK _ _ ?_); clear hK K)
      refine Run.cond_false rfl ?_
      refine Run.skip ?_
      refine Run.seq ?_
      refine Run.seq ?_
      (refine Run.draw H [] [0, 1, 2, 3, 4, 5, 6, 7] ?_; clear H; intro K hK w H)
      refine Draw.take0 rfl (X.move rfl) rfl rfl rfl (by decide +kernel) ?_
      refine Draw.take0 rfl (X.nilCheck rfl) rfl rfl rfl (by decide +kernel) ?_
      refine Draw.take0 rfl (X.fieldAddr rfl rfl rfl rfl rfl rfl) rfl rfl rfl (by decide +kernel) ?_
      refine Draw.take rfl (X.load1 rfl rfl rfl rfl (.tail .head) rfl) rfl rfl rfl (by decide +kernel) ?_
      refine Draw.take0 rfl (X.fieldAddr rfl rfl rfl rfl rfl rfl) rfl rfl rfl (by decide +kernel) ?_
      refine Draw.take rfl (X.load1 rfl rfl rfl rfl Pick.head rfl) rfl rfl rfl (by decide +kernel) ?_
      refine Draw.take0 rfl (X.indexAddr rfl rfl (by omega) rfl rfl rfl rfl) rfl rfl rfl (by decide +kernel) ?_
      refine Draw.take rfl (X.load1 rfl rfl rfl rfl (.tail (.tail .head)) (by assumption)) rfl rfl rfl (by decide +kernel) ?_
      (refine Draw.done (by decide +kernel) (hK _ _ ?_); clear hK K)
      refine Run.cond_false rfl ?_
      refine Run.skip ?_
      refine Run.seq ?_
      (refine Run.region ?_; intro K hK)
      refine Ops.pure H (X.assign rfl) rfl rfl rfl ?_
      (refine Ops.nil (hK _ _ ?_); clear hK K)
      (first | refine Fn.ret1 HF rfl rfl ?_ | refine Fn.ret2 HF rfl rfl rfl ?_ | refine Fn.ret3 HF rfl rfl rfl rfl ?_ | refine Fn.ret0 HF rfl ?_ | refine Fn.fin0 HF rfl ?_ | refine Fn.retG (E := env) HF rfl H (by first | exact RVs.cellN rfl rfl rfl (by first | exact .head | exact .tail .head | exact .tail (.tail .head) | exact .tail (.tail (.tail .head)) | exact .tail (.tail (.tail (.tail .head))) | exact .tail (.tail (.tail (.tail (.tail .head)))) | exact .tail (.tail (.tail (.tail (.tail (.tail .head)))))) (by first | assumption | exact Cs.take rfl) RVs.nil | exact RVs.cellN rfl rfl rfl (by first | exact .head | exact .tail .head | exact .tail (.tail .head) | exact .tail (.tail (.tail .head)) | exact .tail (.tail (.tail (.tail .head))) | exact .tail (.tail (.tail (.tail (.tail .head)))) | exact .tail (.tail (.tail (.tail (.tail (.tail .head)))))) (by first | assumption | exact Cs.take rfl) (RVs.tmp rfl RVs.nil) | exact RVs.cellN rfl rfl rfl (by first | exact .head | exact .tail .head | exact .tail (.tail .head) | exact .tail (.tail (.tail .head)) | exact .tail (.tail (.tail (.tail .head))) | exact .tail (.tail (.tail (.tail (.tail .head)))) | exact .tail (.tail (.tail (.tail (.tail (.tail .head)))))) (by first | assumption | exact Cs.take rfl) (RVs.tmp rfl (RVs.tmp rfl RVs.nil))) rfl ?_)
      refine ⟨by simp [Ns.flE, hin], g', st.ext H.fr, ?_⟩
      rw [hlo]
      unfold Ns.deliver
      rw [if_pos hin, Int.toNat_natCast, hpg, ← hup, if_neg (by simp)]
/-- What Recv finds. -/
def Ns.head (s : Ns) (i : Int) : Option (Nat × List Int) := if s.there i then (s.box i.toNat).head? else none
def Ns.recvE (s : Ns) (i : Int) : Int := if s.there i then 0 else 60
def Ns.recv (s : Ns) (i : Int) : Ns := if s.there i then s.setB i.toNat (s.box i.toNat).tail else s
theorem recv_any (z : World) (g : PG) (i : Int) (h : PN z g) : Fn env.P 17 [.pointer (some ⟨g.nb, 0, none⟩), .int .i64 i] z fun v w' =>
    (g.abs.head i = none ∧ v = .tuple #[.agg (msC ((0, []), .slice none 0 0)).toArray, .bool false, .int .i64 (g.abs.recvE i)] ∧ Fr z w' [] ∧ g.abs.recv i = g.abs) ∨
    ∃ m mv g', g.abs.head i = some m ∧ g.abs.recvE i = 0 ∧ v = .tuple #[.agg (msC (m, mv)).toArray, .bool true, .int .i64 0] ∧ PStep z g w' g' ∧ g'.abs = g.abs.recv i ∧ Bts w' mv m.2 ∧ (∀ b, blkV mv = some b → PM g b ∧ ¬ PF g' b ∧ ¬ PI g' b) := by
  obtain ⟨cu, cx, fv, a1, a2, a3, _⟩ := h.net
  obtain ⟨xs, x1, x2, x3⟩ := h.boxr
  have H := ((Holds.start z [g.xb]).add false a1 (by simp) (by simp)).add true x1 (by simpa using ne_of_ty x1 a1 (by decide)) (by simp)
  have HF := Try.func17; refine Fn.enter Try.func17 Try.ntmps17 rfl rfl rfl ?_
  refine Run.seq ?_
  (refine Run.region ?_; intro K hK)
  (refine Ops.eff rfl (Y.alloc rfl rfl rfl H ?_); intro b4 w H0 hb4; clear H; have H := H0; clear H0)
  refine Ops.pure H (X.assign rfl) rfl rfl rfl ?_
  refine Ops.pure H (X.assign rfl) rfl rfl rfl ?_
  (refine Ops.nil (hK _ _ ?_); clear hK K)
  refine Run.seq ?_
  refine Run.seq ?_
  (refine Run.region ?_; intro K hK)
  refine Ops.pure H (X.move rfl) rfl rfl rfl ?_
  refine Ops.pure H (X.move rfl) rfl rfl rfl ?_
  have hd := H.fr.drop1 (by rw [x1]; exact H.pick (.tail .head))
  refine Ops.eff rfl (Y.call rfl rfl (by first | assumption | decide +kernel) rfl (there_any _ g i (h.ext hd)) rfl ?_)
  rintro v w1 ⟨rfl, rfl⟩
  cases hi : g.abs.there i with
  | false =>
    refine Ops.pure H (X.not rfl) rfl rfl rfl ?_
    (refine Ops.nil (hK _ _ ?_); clear hK K)
    refine Run.cond_true rfl ?_
    refine Run.seq ?_
    (refine Run.region ?_; intro K hK)
    refine Ops.pure H (X.buildO rfl rfl rfl rfl rfl rfl) rfl rfl rfl ?_
    (refine Ops.eff rfl (Y.storeO rfl rfl rfl rfl rfl rfl H Upd.head rfl ?_); intro w H0; clear H; have H := H0; clear H0)
    refine Ops.pure H (X.assign rfl) rfl rfl rfl ?_
    refine Ops.pure H (X.assign rfl) rfl rfl rfl ?_
    (refine Ops.nil (hK _ _ ?_); clear hK K)
    (first | refine Fn.ret1 HF rfl rfl ?_ | refine Fn.ret2 HF rfl rfl rfl ?_ | refine Fn.ret3 HF rfl rfl rfl rfl ?_ | refine Fn.ret0 HF rfl ?_ | refine Fn.fin0 HF rfl ?_ | refine Fn.retG (E := env) HF rfl H (by first | exact RVs.cellN rfl rfl rfl (by first | exact .head | exact .tail .head | exact .tail (.tail .head) | exact .tail (.tail (.tail .head)) | exact .tail (.tail (.tail (.tail .head))) | exact .tail (.tail (.tail (.tail (.tail .head)))) | exact .tail (.tail (.tail (.tail (.tail (.tail .head)))))) (by first | assumption | exact Cs.take rfl) RVs.nil | exact RVs.cellN rfl rfl rfl (by first | exact .head | exact .tail .head | exact .tail (.tail .head) | exact .tail (.tail (.tail .head)) | exact .tail (.tail (.tail (.tail .head))) | exact .tail (.tail (.tail (.tail (.tail .head)))) | exact .tail (.tail (.tail (.tail (.tail (.tail .head)))))) (by first | assumption | exact Cs.take rfl) (RVs.tmp rfl RVs.nil) | exact RVs.cellN rfl rfl rfl (by first | exact .head | exact .tail .head | exact .tail (.tail .head) | exact .tail (.tail (.tail .head)) | exact .tail (.tail (.tail (.tail .head))) | exact .tail (.tail (.tail (.tail (.tail .head)))) | exact .tail (.tail (.tail (.tail (.tail (.tail .head)))))) (by first | assumption | exact Cs.take rfl) (RVs.tmp rfl (RVs.tmp rfl RVs.nil))) rfl ?_)
    exact .inl ⟨by simp [Ns.head, hi], by simp [Ns.recvE, hi]; rfl, H.fr.drop1 (by rw [x1]; exact H.pick (.tail .head)), by simp [Ns.recv, hi]⟩
  | true =>
    obtain ⟨k, rfl, hk, _⟩ := there_iff.1 hi
    replace hk : k < g.n := hk
    obtain ⟨v, v1, v2⟩ := x3 k hk
    cases hbx : g.box k with
    | nil =>
      rw [hbx] at v2
      obtain ⟨va, vc, rfl, _⟩ := v2.slice
      have hc : xs[0 + k * 1]? = some (.slice va 0 vc) := by rw [Nat.zero_add, Nat.mul_one]; exact v1
      refine Ops.pure H (X.not rfl) rfl rfl rfl ?_
      (refine Ops.nil (hK _ _ ?_); clear hK K)
      refine Run.cond_false rfl ?_
      refine Run.skip ?_
      refine Run.seq ?_
      refine Run.seq ?_
      (refine Run.region ?_; intro K hK)
      refine Ops.pure H (X.move rfl) rfl rfl rfl ?_
      refine Ops.pure H (X.nilCheck rfl) rfl rfl rfl ?_
      refine Ops.pure H (X.fieldAddr rfl rfl rfl rfl rfl rfl) rfl rfl rfl ?_
      refine Ops.pure H (X.load1 rfl rfl rfl rfl (.tail (.tail .head)) rfl) rfl rfl rfl ?_
      refine Ops.pure H (X.move rfl) rfl rfl rfl ?_
      refine Ops.pure H (X.indexAddr rfl rfl (by omega) rfl rfl rfl rfl) rfl rfl rfl ?_
      refine Ops.pure H (X.load1 rfl rfl rfl rfl (.tail .head) (by assumption)) rfl rfl rfl ?_
      refine Ops.pure H (X.len_slice rfl rfl rfl) rfl rfl rfl ?_
      refine Ops.pure H (X.cmp rfl rfl rfl) rfl rfl rfl ?_
      (refine Ops.nil (hK _ _ ?_); clear hK K)
      refine Run.cond_true rfl ?_
      refine Run.seq ?_
      (refine Run.region ?_; intro K hK)
      refine Ops.pure H (X.buildO rfl rfl rfl rfl rfl rfl) rfl rfl rfl ?_
      (refine Ops.eff rfl (Y.storeO rfl rfl rfl rfl rfl rfl H Upd.head rfl ?_); intro w H0; clear H; have H := H0; clear H0)
      refine Ops.pure H (X.assign rfl) rfl rfl rfl ?_
      refine Ops.pure H (X.assign rfl) rfl rfl rfl ?_
      (refine Ops.nil (hK _ _ ?_); clear hK K)
      (first | refine Fn.ret1 HF rfl rfl ?_ | refine Fn.ret2 HF rfl rfl rfl ?_ | refine Fn.ret3 HF rfl rfl rfl rfl ?_ | refine Fn.ret0 HF rfl ?_ | refine Fn.fin0 HF rfl ?_ | refine Fn.retG (E := env) HF rfl H (by first | exact RVs.cellN rfl rfl rfl (by first | exact .head | exact .tail .head | exact .tail (.tail .head) | exact .tail (.tail (.tail .head)) | exact .tail (.tail (.tail (.tail .head))) | exact .tail (.tail (.tail (.tail (.tail .head)))) | exact .tail (.tail (.tail (.tail (.tail (.tail .head)))))) (by first | assumption | exact Cs.take rfl) RVs.nil | exact RVs.cellN rfl rfl rfl (by first | exact .head | exact .tail .head | exact .tail (.tail .head) | exact .tail (.tail (.tail .head)) | exact .tail (.tail (.tail (.tail .head))) | exact .tail (.tail (.tail (.tail (.tail .head)))) | exact .tail (.tail (.tail (.tail (.tail (.tail .head)))))) (by first | assumption | exact Cs.take rfl) (RVs.tmp rfl RVs.nil) | exact RVs.cellN rfl rfl rfl (by first | exact .head | exact .tail .head | exact .tail (.tail .head) | exact .tail (.tail (.tail .head)) | exact .tail (.tail (.tail (.tail .head))) | exact .tail (.tail (.tail (.tail (.tail .head)))) | exact .tail (.tail (.tail (.tail (.tail (.tail .head)))))) (by first | assumption | exact Cs.take rfl) (RVs.tmp rfl (RVs.tmp rfl RVs.nil))) rfl ?_)
      refine .inl ⟨by simp [Ns.head, hi, abs_box, hbx], by simp [Ns.recvE, hi]; rfl, H.fr.drop1 (by rw [x1]; exact H.pick (.tail .head)), ?_⟩
      simp only [Ns.recv, hi, if_true, Int.toNat_natCast]
      have : (g.abs.box k).tail = g.abs.box k := by rw [abs_box, hbx]; rfl
      rw [this, setB_abs]
    | cons m ms =>
      rw [hbx] at v2
      have hbb := h.boxb k hk
      rw [hbx] at hbb
      obtain ⟨⟨fr, bs⟩, mv⟩ := m
      have hBm := hbb _ (List.mem_cons_self ..)
      dsimp only at hBm
      obtain ⟨ma, mc, rfl⟩ := hBm.slice
      obtain ⟨b, off, cap, cs, hob, rfl, l1, l2, l3, l4, l5⟩ := v2.pos (by simp)
      simp only [List.length_cons] at v1 l1 l5
      have hc : xs[0 + k * 1]? = some (.slice (some ⟨b, off, none⟩) (ms.length + 1) cap) := by rw [Nat.zero_add, Nat.mul_one]; exact v1
      have hcell : Cs cs (off + 0 * 2) 2 [.int .i64 (fr : Nat), .slice ma bs.length mc] := (l5.sub 0 2 (by omega)).cast rfl rfl (by simp [msC])
      have hbz := lt_of_at l3
      replace H := H.add false (hd.get l3 (by simp)) (by simpa using ⟨by omega, ne_of_ty l3 x1 (by decide), ne_of_ty l3 a1 (by decide)⟩) (by simp)
      refine Ops.pure H (X.not rfl) rfl rfl rfl ?_
      (refine Ops.nil (hK _ _ ?_); clear hK K)
      refine Run.cond_false rfl ?_
      refine Run.skip ?_
      refine Run.seq ?_
      refine Run.seq ?_
      (refine Run.region ?_; intro K hK)
      refine Ops.pure H (X.move rfl) rfl rfl rfl ?_
      refine Ops.pure H (X.nilCheck rfl) rfl rfl rfl ?_
      refine Ops.pure H (X.fieldAddr rfl rfl rfl rfl rfl rfl) rfl rfl rfl ?_
      refine Ops.pure H (X.load1 rfl rfl rfl rfl (.tail (.tail (.tail .head))) rfl) rfl rfl rfl ?_
      refine Ops.pure H (X.move rfl) rfl rfl rfl ?_
      refine Ops.pure H (X.indexAddr rfl rfl (by omega) rfl rfl rfl rfl) rfl rfl rfl ?_
      refine Ops.pure H (X.load1 rfl rfl rfl rfl (.tail (.tail .head)) (by assumption)) rfl rfl rfl ?_
      refine Ops.pure H (X.len_slice rfl rfl rfl) rfl rfl rfl ?_
      refine Ops.pure H (X.cmp rfl rfl rfl) rfl rfl rfl ?_
      (refine Ops.nil (hK _ _ ?_); clear hK K)
      refine Run.cond_false rfl ?_
      refine Run.skip ?_
      refine Run.seq ?_
      (refine Run.region ?_; intro K hK)
      refine Ops.pure H (X.move rfl) rfl rfl rfl ?_
      refine Ops.pure H (X.nilCheck rfl) rfl rfl rfl ?_
      refine Ops.pure H (X.fieldAddr rfl rfl rfl rfl rfl rfl) rfl rfl rfl ?_
      refine Ops.pure H (X.load1 rfl rfl rfl rfl (.tail (.tail (.tail .head))) rfl) rfl rfl rfl ?_
      refine Ops.pure H (X.move rfl) rfl rfl rfl ?_
      refine Ops.pure H (X.indexAddr rfl rfl (by omega) rfl rfl rfl rfl) rfl rfl rfl ?_
      refine Ops.pure H (X.load1 rfl rfl rfl rfl (.tail (.tail .head)) (by assumption)) rfl rfl rfl ?_
      refine Ops.pure H (X.indexAddrK (j := 0) rfl rfl rfl (by omega) rfl rfl rfl rfl) rfl rfl rfl ?_
      refine Ops.pure H (X.loadN rfl rfl rfl Pick.head (by assumption)) rfl rfl rfl ?_
      (refine Ops.eff rfl (Y.alloc rfl rfl rfl H ?_); intro b7 w H0 hb7; clear H; have H := H0; clear H0)
      (refine Ops.eff rfl (Y.storeO rfl rfl rfl rfl rfl rfl H Upd.head rfl ?_); intro w H0; clear H; have H := H0; clear H0)
      (refine Ops.nil (hK _ _ ?_); clear hK K)
      refine Run.seq ?_
      (refine Run.draw H [14] [0, 1, 2, 3, 4, 5, 6, 7, 8, 9, 10, 11, 12, 13, 14] ?_; clear H; intro K hK w H)
      refine Draw.take0 rfl (X.move rfl) rfl rfl rfl (by decide +kernel) ?_
      refine Draw.take0 rfl (X.nilCheck rfl) rfl rfl rfl (by decide +kernel) ?_
      refine Draw.take0 rfl (X.fieldAddr rfl rfl rfl rfl rfl rfl) rfl rfl rfl (by decide +kernel) ?_
      refine Draw.take rfl (X.load1 rfl rfl rfl rfl (.tail (.tail (.tail (.tail .head)))) rfl) rfl rfl rfl (by decide +kernel) ?_
      refine Draw.take0 rfl (X.move rfl) rfl rfl rfl (by decide +kernel) ?_
      refine Draw.take0 rfl (X.move rfl) rfl rfl rfl (by decide +kernel) ?_
      refine Draw.take0 rfl (X.nilCheck rfl) rfl rfl rfl (by decide +kernel) ?_
      refine Draw.take0 rfl (X.fieldAddr rfl rfl rfl rfl rfl rfl) rfl rfl rfl (by decide +kernel) ?_
      refine Draw.take rfl (X.load1 rfl rfl rfl rfl (.tail (.tail (.tail (.tail .head)))) rfl) rfl rfl rfl (by decide +kernel) ?_
      refine Draw.take0 rfl (X.move rfl) rfl rfl rfl (by decide +kernel) ?_
      refine Draw.take0 rfl (X.indexAddr rfl rfl (by omega) rfl rfl rfl rfl) rfl rfl rfl (by decide +kernel) ?_
      refine Draw.take rfl (X.load1 rfl rfl rfl rfl (.tail (.tail (.tail .head))) (by assumption)) rfl rfl rfl (by decide +kernel) ?_
      refine Draw.take0 rfl (X.slice_l (j := 1) rfl rfl (by omega) rfl rfl rfl rfl) rfl rfl rfl (by decide +kernel) ?_
      refine Draw.take0 rfl (X.indexAddr rfl rfl (by omega) rfl rfl rfl rfl) rfl rfl rfl (by decide +kernel) ?_
      (refine Draw.last rfl rfl (by decide +kernel) (Y.storeI rfl rfl rfl rfl rfl rfl H (.tail (.tail (.tail .head))) (by omega) ?_); intro w H0; clear H; have H := H0; clear H0)
      (refine Draw2.done (by decide +kernel) (hK _ _ ?_); clear hK K)
      refine Run.seq ?_
      (refine Run.region ?_; intro K hK)
      refine Ops.pure H (X.loadN rfl rfl rfl Pick.head (Cs.take rfl)) rfl rfl rfl ?_
      (refine Ops.eff rfl (Y.storeO rfl rfl rfl rfl rfl rfl H (.tail (.tail .head)) rfl ?_); intro w H0; clear H; have H := H0; clear H0)
      refine Ops.pure H (X.assign rfl) rfl rfl rfl ?_
      refine Ops.pure H (X.assign rfl) rfl rfl rfl ?_
      (refine Ops.nil (hK _ _ ?_); clear hK K)
      (first | refine Fn.ret1 HF rfl rfl ?_ | refine Fn.ret2 HF rfl rfl rfl ?_ | refine Fn.ret3 HF rfl rfl rfl rfl ?_ | refine Fn.ret0 HF rfl ?_ | refine Fn.fin0 HF rfl ?_ | refine Fn.retG (E := env) HF rfl H (by first | exact RVs.cellN rfl rfl rfl (by first | exact .head | exact .tail .head | exact .tail (.tail .head) | exact .tail (.tail (.tail .head)) | exact .tail (.tail (.tail (.tail .head))) | exact .tail (.tail (.tail (.tail (.tail .head)))) | exact .tail (.tail (.tail (.tail (.tail (.tail .head)))))) (by first | assumption | exact Cs.take rfl) RVs.nil | exact RVs.cellN rfl rfl rfl (by first | exact .head | exact .tail .head | exact .tail (.tail .head) | exact .tail (.tail (.tail .head)) | exact .tail (.tail (.tail (.tail .head))) | exact .tail (.tail (.tail (.tail (.tail .head)))) | exact .tail (.tail (.tail (.tail (.tail (.tail .head)))))) (by first | assumption | exact Cs.take rfl) (RVs.tmp rfl RVs.nil) | exact RVs.cellN rfl rfl rfl (by first | exact .head | exact .tail .head | exact .tail (.tail .head) | exact .tail (.tail (.tail .head)) | exact .tail (.tail (.tail (.tail .head))) | exact .tail (.tail (.tail (.tail (.tail .head)))) | exact .tail (.tail (.tail (.tail (.tail (.tail .head)))))) (by first | assumption | exact Cs.take rfl) (RVs.tmp rfl (RVs.tmp rfl RVs.nil))) rfl ?_)
      have hF := H.fr
      have hB2 := hBm.keepT hF (fun b hb => by simp at hb; subst hb; exact not5 x1 (by decide))
      have st := h.setBox (i := k) (cs := xs) (v' := .slice (some ⟨b, if cap = 1 then off else off + 1 * 2, none⟩) ms.length (cap - 1)) (ob' := some b) (ms' := ms) hk hF (fun b hb => .inl (by simpa using hb)) x1 (by have := H.pick (b := g.xb) (by first | exact .head | exact .tail .head | exact .tail (.tail .head) | exact .tail (.tail (.tail .head)) | exact .tail (.tail (.tail (.tail .head))) | exact .tail (.tail (.tail (.tail (.tail .head)))) | exact .tail (.tail (.tail (.tail (.tail (.tail .head)))))); simpa using this)
        ⟨_, cap - 1, cs, rfl, by omega, by omega, hF.get l3 (by simpa using ne_of_ty l3 x1 (by decide)), by split <;> omega, ?_⟩ (fun b' hb' => .inl (by rw [hob]; exact hb')) (fun p hp => .inl (by rw [hbx]; exact List.mem_cons_of_mem _ hp))
        (fun i j p q b hp hq e e' => by
          have := (h.dm k k (i + 1) (j + 1) p q b hk hk (by rw [hbx]; simpa using hp) (by rw [hbx]; simpa using hq) e e').2
          omega)
      refine .inr ⟨(fr, bs), .slice ma bs.length mc, _, by simp [Ns.head, hi, abs_box, hbx], by simp [Ns.recvE, hi], rfl, st, ?_, hB2, fun b' hb' => ?_⟩
      · rw [abs_updb]
        simp only [Ns.recv, hi, if_true, Int.toNat_natCast, abs_box, hbx, List.map_cons, List.tail_cons]
      · have hpm : PM g b' := ⟨k, _, hk, by rw [hbx]; exact List.mem_cons_self .., hb'⟩
        refine ⟨hpm, fun hp => ?_, fun hp => h.di b' hpm hp⟩
        rcases hp with hp | ⟨j, q, hj, hq, e⟩
        · obtain ⟨cs', hcs'⟩ := hB2.ty hb'
          exact st.ok.no5 hp cs' hcs'
        · replace hq : q ∈ updb g.box k ms j := hq
          by_cases hjk : j = k
          · subst hjk
            rw [updb_self] at hq
            obtain ⟨l, hl⟩ := List.getElem?_of_mem hq
            have := (h.dm j j 0 (l + 1) _ q b' hk hk (by rw [hbx]; rfl) (by rw [hbx]; simpa using hl) hb' e).2
            omega
          · rw [updb_ne hjk] at hq
            obtain ⟨l, hl⟩ := List.getElem?_of_mem hq
            exact hjk (h.dm k j 0 l _ q b' hk hj (by rw [hbx]; rfl) hl hb' e).1.symm
      · by_cases h1 : cap = 1
        · have : ms = [] := List.eq_nil_of_length_eq_zero (by omega)
          subst this
          simpa using Cs.nil
        · rw [if_neg h1]
          exact (l5.sub 2 (ms.length * 2) (by omega)).cast (by omega) rfl (by
            rw [List.flatMap_cons]
            show List.take (ms.length * 2) (ms.flatMap msC) = ms.flatMap msC
            rw [← ms_len ms, List.take_length])
end Go.Proofs.Ytpmihcefjdeonaa
