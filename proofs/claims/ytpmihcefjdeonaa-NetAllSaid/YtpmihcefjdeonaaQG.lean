/- Walks of layer 6: lives. -/
import Derived.Test.YtpmihcefjdeonaaQE
namespace Go.Proofs.Ytpmihcefjdeonaa
open Go
set_option maxRecDepth 20000
set_option maxHeartbeats 2000000
attribute [local irreducible] Run Ops Fn Draw Draw2 PureOp StepZ

structure Lone (z w : World) (g : PG) (s : Ns) : Prop where
  p : PN w g
  fr : Fr z w []
  new : ∀ c, PF g c → z.heap.size ≤ c
  ab : g.abs = s
theorem Lone.step {z w w' : World} {g g' : PG} {s s' : Ns} (h : Lone z w g s) (st : PStep w g w' g') (ha : g'.abs = s') : Lone z w' g' s' := by
  obtain ⟨S, hf, hS⟩ := st.fr
  exact ⟨st.ok, h.fr.trans hf (by simp) (fun x hx hl => by have := h.new x (hS x hx); omega), fun c hc => (st.own c hc).elim (h.new c) (fun e => by have := h.fr.size; omega), ha⟩
theorem Lone.ext {z w w' : World} {g : PG} {s : Ns} (h : Lone z w g s) (hf : Fr w w' []) : Lone z w' g s := ⟨h.p.ext hf, h.fr.then hf, h.new, h.ab⟩
def sL0 : Ns := ns0 2
def sL1 : Ns := sL0.send 0 1 [97]
def sL2 : Ns := sL1.send 0 1 [98]
def sL3 : Ns := sL2.deliver 1
def sL4 : Ns := sL3.deliver 0
def sL5 : Ns := sL4.tick 0
def sLd : Nat → Ns
  | 0 => sL5
  | m + 1 => (sLd m).deliver 0
theorem sLd_ok (m : Nat) : (sLd m).Ok (5 + m) := by
  induction m with
  | zero => exact (((((ns0_ok 2).send 0 1 [97]).send 0 1 [98]).deliver 1).deliver 0).mono (Nat.le_refl 4) |>.tick 0 |>.mono (by decide)
  | succ m ih => exact ih.deliver 0
theorem lives_e1 : sL0.sendE 0 1 [97] = 0 := by decide +kernel
theorem lives_e2 : sL1.sendE 0 1 [98] = 0 := by decide +kernel
theorem lives_e3 : sL2.flE 1 = 0 := by decide +kernel
theorem lives_e4 : sL3.flE 0 = 0 := by decide +kernel
theorem lives_e5 : sL4.tickE 0 = 0 := by decide +kernel
theorem lives_h1 : (sLd 9).head 1 = some (0, [97]) := by decide +kernel
theorem lives_h2 : ((sLd 9).recv 1).head 1 = some (0, [98]) := by decide +kernel
theorem lives_h3 : (((sLd 9).recv 1).recv 1).head 1 = none := by decide +kernel
theorem lives_r1 : (sLd 9).recvE 1 = 0 := by decide +kernel
theorem lives_r2 : ((sLd 9).recv 1).recvE 1 = 0 := by decide +kernel
theorem lives_r3 : (((sLd 9).recv 1).recv 1).recvE 1 = 0 := by decide +kernel
theorem send_at (z : World) (g : PG) (f t : Int) (bv : Value) (bs : List Int) (k : Nat) {nb : Nat} (hnb : g.nb = nb) (h : PN z g) (hok : g.abs.Ok k) (hk : k ≤ 4398046511000) (hbv : ∀ w' S, Fr z w' S → (∀ b ∈ S, PF g b) → Bys w' bv bs) : Fn env.P 15 [.pointer (some ⟨nb, 0, none⟩), .int .i64 f, .int .i64 t, bv] z (POp z g (g.abs.sendE f t bs) (g.abs.send f t bs)) := by subst hnb; exact send_any z g f t bv bs k h hok hk hbv
theorem deliver_at (z : World) (g : PG) (i : Int) (k : Nat) {nb : Nat} (hnb : g.nb = nb) (h : PN z g) (hok : g.abs.Ok k) (hk : k ≤ 4398046511000) : Fn env.P 13 [.pointer (some ⟨nb, 0, none⟩), .int .i64 i] z (POp z g (g.abs.flE i) (g.abs.deliver i)) := by subst hnb; exact deliver_any z g i k h hok hk
theorem tick_at (z : World) (g : PG) (i : Int) (k : Nat) {nb : Nat} (hnb : g.nb = nb) (h : PN z g) (hok : g.abs.Ok k) (hk : k ≤ 4398046511000) : Fn env.P 12 [.pointer (some ⟨nb, 0, none⟩), .int .i64 i] z (POp z g (g.abs.tickE i) (g.abs.tick i)) := by subst hnb; exact tick_any z g i k h hok hk
theorem recv_at (z : World) (g : PG) (i : Int) {nb : Nat} (hnb : g.nb = nb) (h : PN z g) : Fn env.P 17 [.pointer (some ⟨nb, 0, none⟩), .int .i64 i] z fun v w' => ∃ g' mv, v = .tuple #[.agg #[.int .i64 ((g.abs.mess i).1 : Nat), mv], .bool (g.abs.head i).isSome, .int .i64 (g.abs.recvE i)] ∧ PStep z g w' g' ∧ g'.abs = g.abs.recv i ∧ Bts w' mv (g.abs.mess i).2 ∧ ∀ b, blkV mv = some b → PM g b ∧ ¬ PF g' b ∧ ¬ PI g' b := by subst hnb; exact recv_one z g i h
theorem lives_yes (z : World) : Fn env.P 6 [] z fun v w' => v = .bool true ∧ Fr z w' [] := by
  have H := Holds.start z []
  have HF := Try.func6; refine Fn.enter Try.func6 Try.ntmps6 rfl rfl rfl ?_
  refine Run.seq ?_
  (refine Run.region ?_; intro K hK)
  refine Ops.pure H (X.assign rfl) rfl rfl rfl ?_
  (refine Ops.nil (hK _ _ ?_); clear hK K)
  refine Run.seq ?_
  (refine Run.region ?_; intro K hK)
  refine Ops.eff rfl (Y.call rfl rfl (by first | assumption | decide +kernel) rfl (new_yes _ 2 (by decide) (by decide)) rfl ?_)
  rintro v w1 ⟨g, rfl, hp, hab, hf1, hpf, hpi⟩
  have L0 : Lone z w1 g sL0 := ⟨hp, hf1, hpf, hab⟩
  have H := Holds.start w1 []
  refine Ops.pure H (X.move rfl) rfl rfl rfl ?_
  refine Ops.pure H (X.extract rfl rfl) rfl rfl rfl ?_
  refine Ops.pure H (X.extract rfl rfl) rfl rfl rfl ?_
  refine Ops.pure H (X.assign rfl) rfl rfl rfl ?_
  refine Ops.pure H (X.assign rfl) rfl rfl rfl ?_
  (refine Ops.nil (hK _ _ ?_); clear hK K)
  refine Run.seq ?_
  refine Run.seq ?_
  (refine Run.region ?_; intro K hK)
  refine Ops.pure H (X.move rfl) rfl rfl rfl ?_
  refine Ops.pure H (X.cmp rfl rfl rfl) rfl rfl rfl ?_
  refine Ops.pure H (X.move rfl) rfl rfl rfl ?_
  refine Ops.pure H (X.move rfl) rfl rfl rfl ?_
  refine Ops.pure H (X.ptrNil rfl rfl rfl rfl rfl) rfl rfl rfl ?_
  refine Ops.pure H (X.pick_f rfl rfl) rfl rfl rfl ?_
  refine Ops.pure H (X.move rfl) rfl rfl rfl ?_
  refine Ops.pure H (X.move rfl) rfl rfl rfl ?_
  (refine Ops.eff rfl (Y.buildSliceO rfl rfl rfl rfl rfl rfl rfl rfl H ?_); intro b25 w H0 hb25; clear H; have H := H0; clear H0)
  have L0nb : g.nb = g.nb := rfl
  have L0ok : g.abs.Ok 0 := by rw [L0.ab]; exact ns0_ok 2
  refine Ops.eff rfl (Y.mark H .head rfl rfl rfl rfl rfl rfl ?_)
  intro w H
  skip
  have hk1 := H.pick (b := b25) (by first | exact .head | exact .tail .head | exact .tail (.tail .head) | exact .tail (.tail (.tail .head)) | exact .tail (.tail (.tail (.tail .head))) | exact .tail (.tail (.tail (.tail (.tail .head)))) | exact .tail (.tail (.tail (.tail (.tail (.tail .head))))))
  have hp1 := L0.p.ext H.fr
  refine Ops.eff rfl (Y.call rfl rfl (by first | assumption | decide +kernel) rfl (send_at _ g 0 1 _ [97] 0 L0nb hp1 (L0ok) (by decide) (fun w' S hf hS => ⟨some ⟨b25, 0, none⟩, 1, b25, 0, _, _, _, rfl, by simp, by simp, fun _ => ⟨rfl, hf.get hk1 (fun hm => L0.p.npf hb25 (hS _ hm))⟩, Cs.take rfl⟩)) rfl ?_)
  rintro v w2 ⟨hv, g1, st, hab1⟩
  rw [L0.ab] at hv hab1
  rw [lives_e1] at hv
  subst hv
  have L1 : Lone z w2 g1 sL1 := (L0.ext H.fr).step st hab1
  have L1nb : g1.nb = g.nb := st.nb
  have L1ok : g1.abs.Ok 1 := by rw [L1.ab]; exact (ns0_ok 2).send 0 1 [97]
  clear H
  have H := Holds.start w2 []
  refine Ops.pure H (X.cmp rfl rfl rfl) rfl rfl rfl ?_
  refine Ops.pure H (X.pick_f rfl rfl) rfl rfl rfl ?_
  refine Ops.pure H (X.move rfl) rfl rfl rfl ?_
  refine Ops.pure H (X.move rfl) rfl rfl rfl ?_
  (refine Ops.eff rfl (Y.buildSliceO rfl rfl rfl rfl rfl rfl rfl rfl H ?_); intro b32 w H0 hb32; clear H; have H := H0; clear H0)
  refine Ops.split_ndec rfl rfl (fun h33 => ?x0) (fun h33 => ?y0)
  case' y0 => skip
  case' x0 => exfalso; omega
  refine Ops.eff rfl (Y.mark H .head rfl rfl rfl rfl rfl rfl ?_)
  intro w H
  skip
  have hk2 := H.pick (b := b32) (by first | exact .head | exact .tail .head | exact .tail (.tail .head) | exact .tail (.tail (.tail .head)) | exact .tail (.tail (.tail (.tail .head))) | exact .tail (.tail (.tail (.tail (.tail .head)))) | exact .tail (.tail (.tail (.tail (.tail (.tail .head))))))
  have hp2 := L1.p.ext H.fr
  refine Ops.eff rfl (Y.call rfl rfl (by first | assumption | decide +kernel) rfl (send_at _ g1 0 1 _ [98] 1 L1nb hp2 (L1ok) (by decide) (fun w' S hf hS => ⟨some ⟨b32, 0, none⟩, 1, b32, 0, _, _, _, rfl, by simp, by simp, fun _ => ⟨rfl, hf.get hk2 (fun hm => L1.p.npf hb32 (hS _ hm))⟩, Cs.take rfl⟩)) rfl ?_)
  rintro v w3 ⟨hv, g2, st, hab2⟩
  rw [L1.ab] at hv hab2
  rw [lives_e2] at hv
  subst hv
  have L2 : Lone z w3 g2 sL2 := (L1.ext H.fr).step st hab2
  have L2nb : g2.nb = g.nb := st.nb.trans L1nb
  have L2ok : g2.abs.Ok 2 := by rw [L2.ab]; exact ((ns0_ok 2).send 0 1 [97]).send 0 1 [98]
  clear H
  have H := Holds.start w3 []
  refine Ops.pure H (X.cmp rfl rfl rfl) rfl rfl rfl ?_
  refine Ops.pure H (X.pick_f rfl rfl) rfl rfl rfl ?_
  (refine Ops.nil (hK _ _ ?_); clear hK K)
  refine Run.cond_false rfl ?_
  refine Run.skip ?_
  refine Run.seq ?_
  refine Run.seq ?_
  (refine Run.region ?_; intro K hK)
  refine Ops.pure H (X.move rfl) rfl rfl rfl ?_
  refine Ops.eff rfl (Y.call rfl rfl (by first | assumption | decide +kernel) rfl (deliver_at _ g2 1 2 L2nb (L2.p.ext H.fr) L2ok (by decide)) rfl ?_)
  rintro v w4 ⟨hv, g3, st, hab3⟩
  rw [L2.ab] at hv hab3
  rw [lives_e3] at hv
  subst hv
  have L3 : Lone z w4 g3 sL3 := (L2.ext H.fr).step st hab3
  have L3nb : g3.nb = g.nb := st.nb.trans L2nb
  have L3ok : g3.abs.Ok 5 := by rw [L3.ab]; exact ((((ns0_ok 2).send 0 1 [97]).send 0 1 [98]).deliver 1).mono (by decide)
  clear H
  have H := Holds.start w4 []
  refine Ops.pure H (X.cmp rfl rfl rfl) rfl rfl rfl ?_
  refine Ops.pure H (X.move rfl) rfl rfl rfl ?_
  refine Ops.pure H (X.move rfl) rfl rfl rfl ?_
  refine Ops.split_ndec rfl rfl (fun h42 => ?x1) (fun h42 => ?y1)
  case' y1 => skip
  case' x1 => exfalso; omega
  refine Ops.eff rfl (Y.call rfl rfl (by first | assumption | decide +kernel) rfl (deliver_at _ g3 0 5 L3nb (L3.p.ext H.fr) L3ok (by decide)) rfl ?_)
  rintro v w5 ⟨hv, g4, st, hab4⟩
  rw [L3.ab] at hv hab4
  rw [lives_e4] at hv
  subst hv
  have L4 : Lone z w5 g4 sL4 := (L3.ext H.fr).step st hab4
  have L4nb : g4.nb = g.nb := st.nb.trans L3nb
  have L4ok : g4.abs.Ok 5 := by rw [L4.ab]; exact (((((ns0_ok 2).send 0 1 [97]).send 0 1 [98]).deliver 1).deliver 0).mono (by decide)
  clear H
  have H := Holds.start w5 []
  refine Ops.pure H (X.cmp rfl rfl rfl) rfl rfl rfl ?_
  refine Ops.pure H (X.pick_f rfl rfl) rfl rfl rfl ?_
  refine Ops.pure H (X.move rfl) rfl rfl rfl ?_
  refine Ops.pure H (X.move rfl) rfl rfl rfl ?_
  refine Ops.split_ndec rfl rfl (fun h47 => ?x2) (fun h47 => ?y2)
  case' y2 => skip
  case' x2 => exfalso; omega
  refine Ops.eff rfl (Y.call rfl rfl (by first | assumption | decide +kernel) rfl (tick_at _ g4 0 5 L4nb (L4.p.ext H.fr) L4ok (by decide)) rfl ?_)
  rintro v w6 ⟨hv, g5, st, hab5⟩
  rw [L4.ab] at hv hab5
  rw [lives_e5] at hv
  subst hv
  have L5 : Lone z w6 g5 (sLd 0) := (L4.ext H.fr).step st hab5
  have L5nb : g5.nb = g.nb := st.nb.trans L4nb
  have L5ok : g5.abs.Ok 5 := by rw [L5.ab]; exact sLd_ok 0
  clear H
  have H := Holds.start w6 []
  refine Ops.pure H (X.cmp rfl rfl rfl) rfl rfl rfl ?_
  refine Ops.pure H (X.pick_f rfl rfl) rfl rfl rfl ?_
  (refine Ops.nil (hK _ _ ?_); clear hK K)
  refine Run.cond_false rfl ?_
  refine Run.skip ?_
  refine Run.seq ?_
  refine Run.seq ?_
  (refine Run.region ?_; intro K hK)
  refine Ops.pure H (X.assign rfl) rfl rfl rfl ?_
  (refine Ops.nil (hK _ _ ?_); clear hK K)
  refine Run.block ?_
  refine Run.rounds (fun (m : Nat) => [(1, .pointer (some ⟨g.nb, 0, none⟩)), (3, .int .i64 (m : Nat))]) (fun m w' => m ≤ 9 ∧ ∃ g', Lone z w' g' (sLd m) ∧ g'.nb = g.nb) (fun m => 9 - m) 0 (by repeat (first | exact trivial | refine ⟨rfl, ?_⟩)) ⟨by omega, g5, L5.ext H.fr, L5nb⟩ ?_
  clear H
  rintro m w7 ⟨hm, g', L, hnb⟩ IH
  have H := Holds.start w7 []
  by_cases hlt : m < 9
  · refine Run.seq ?_
    refine Run.seq ?_
    (refine Run.region ?_; intro K hK)
    refine Ops.pure H (X.move rfl) rfl rfl rfl ?_
    refine Ops.pure H (X.cmp rfl rfl rfl) rfl rfl rfl ?_
    (refine Ops.nil (hK _ _ ?_); clear hK K)
    refine Run.cond_dec rfl (fun h51 => ?x3) (fun h51 => ?y3)
    case' y3 => exfalso; omega
    case' x3 =>
      refine Run.skip ?_
      refine Run.seq ?_
      refine Run.block ?_
      (refine Run.region ?_; intro K hK)
      refine Ops.pure H (X.move rfl) rfl rfl rfl ?_
    refine Ops.eff rfl (Y.call rfl rfl (by first | assumption | decide +kernel) rfl (deliver_at _ g' 0 (5 + m) hnb (L.p.ext H.fr) (by rw [L.ab]; exact sLd_ok m) (by omega)) rfl ?_)
    rintro v w8 ⟨_, g8, st, hab8⟩
    rw [L.ab] at hab8
    have L8 : Lone z w8 g8 (sLd (m + 1)) := (L.ext H.fr).step st hab8
    clear H
    have H := Holds.start w8 []
    (refine Ops.nil (hK _ _ ?_); clear hK K)
    refine Run.inBlock ?_
    (refine Run.region ?_; intro K hK)
    refine Ops.pure H (X.move rfl) rfl rfl rfl ?_
    refine Ops.pure H (X.succ rfl rfl (by omega)) rfl rfl rfl ?_
    refine Ops.pure H (X.assign rfl) rfl rfl rfl ?_
    (refine Ops.nil (hK _ _ ?_); clear hK K)
    exact (IH (m + 1) _ (by omega) ⟨by omega, g8, L8.ext H.fr, st.nb.trans hnb⟩).weak (by repeat (first | exact trivial | refine ⟨rfl, ?_⟩))
  · obtain rfl : m = 9 := by omega
    refine Run.seq ?_
    refine Run.seq ?_
    (refine Run.region ?_; intro K hK)
    refine Ops.pure H (X.move rfl) rfl rfl rfl ?_
    refine Ops.pure H (X.cmp rfl rfl rfl) rfl rfl rfl ?_
    (refine Ops.nil (hK _ _ ?_); clear hK K)
    refine Run.cond_false rfl ?_
    refine Run.exit rfl ?_
    refine Run.seq ?_
    (refine Run.region ?_; intro K hK)
    refine Ops.pure H (X.move rfl) rfl rfl rfl ?_
    refine Ops.eff rfl (Y.call rfl rfl (by first | assumption | decide +kernel) rfl (recv_at _ g' 1 hnb (L.p.ext H.fr)) rfl ?_)
    rintro v w8 ⟨g8, mv8, rfl, st8, hab8, hB8, hbl8⟩
    rw [L.ab] at hab8 hB8 ⊢
    have L8 : Lone z w8 g8 _ := (L.ext H.fr).step st8 hab8
    have e8 : (sLd 9).mess 1 = (0, [97]) := by unfold Ns.mess; rw [lives_h1]; rfl
    rw [e8] at hB8 ⊢
    rw [lives_h1, lives_r1]
    obtain ⟨a8, c8, rfl⟩ := hB8.slice
    clear H
    have H := Holds.start w8 []
    refine Ops.pure H (X.move rfl) rfl rfl rfl ?_
    refine Ops.pure H (X.extract rfl rfl) rfl rfl rfl ?_
    refine Ops.pure H (X.extract rfl rfl) rfl rfl rfl ?_
    refine Ops.pure H (X.extract rfl rfl) rfl rfl rfl ?_
    (refine Ops.eff rfl (Y.alloc rfl rfl rfl H ?_); intro b4 w H0 hb4; clear H; have H := H0; clear H0)
    (refine Ops.eff rfl (Y.storeO rfl rfl rfl rfl rfl rfl H Upd.head rfl ?_); intro w H0; clear H; have H := H0; clear H0)
    refine Ops.pure H (X.assign rfl) rfl rfl rfl ?_
    refine Ops.pure H (X.assign rfl) rfl rfl rfl ?_
    (refine Ops.nil (hK _ _ ?_); clear hK K)
    refine Run.seq ?_
    (refine Run.region ?_; intro K hK)
    refine Ops.pure H (X.move rfl) rfl rfl rfl ?_
    have k4 := H.pick (b := b4) (by first | exact .head | exact .tail .head | exact .tail (.tail .head) | exact .tail (.tail (.tail .head)) | exact .tail (.tail (.tail (.tail .head))) | exact .tail (.tail (.tail (.tail (.tail .head)))) | exact .tail (.tail (.tail (.tail (.tail (.tail .head))))))
    have n4 := L8.p.npf hb4
    have hBx := hB8.ext H.fr
    have hnb8 := st8.nb.trans hnb
    refine Ops.eff rfl (Y.call rfl rfl (by first | assumption | decide +kernel) rfl (recv_at _ g8 1 hnb8 (L8.p.ext H.fr)) rfl ?_)
    rintro v w9 ⟨g9, mv9, rfl, st9, hab9, hB9, hbl9⟩
    rw [L8.ab] at hab9 hB9 ⊢
    have L9 : Lone z w9 g9 _ := (L8.ext H.fr).step st9 hab9
    have e9 : ((sLd 9).recv 1).mess 1 = (0, [98]) := by unfold Ns.mess; rw [lives_h2]; rfl
    rw [e9] at hB9 ⊢
    rw [lives_h2, lives_r2]
    obtain ⟨a9, c9, rfl⟩ := hB9.slice
    have k49 := st9.get k4 n4
    have n49 := st9.nPF (lt_of_at k4) n4
    have hBx9 : Bts w9 (.slice a8 ((0, [97]) : Nat × List Int).2.length c8) [97] := by obtain ⟨S, hfS, hS⟩ := st9.fr; exact hBx.keep hfS (fun b hb hm => (hbl8 b hb).2.1 (hS b hm))
    have hx9 : ∀ b, blkV (.slice a8 ((0, [97]) : Nat × List Int).2.length c8) = some b → ¬ PF g9 b := fun b hb => st9.nPF (hBx.lt hb) (hbl8 b hb).2.1
    clear H
    have H := (Holds.start w9 []).add false k49 (by simp) (by simp)
    refine Ops.pure H (X.move rfl) rfl rfl rfl ?_
    refine Ops.pure H (X.extract rfl rfl) rfl rfl rfl ?_
    refine Ops.pure H (X.extract rfl rfl) rfl rfl rfl ?_
    refine Ops.pure H (X.extract rfl rfl) rfl rfl rfl ?_
    (refine Ops.eff rfl (Y.alloc rfl rfl rfl H ?_); intro b7 w H0 hb7; clear H; have H := H0; clear H0)
    (refine Ops.eff rfl (Y.storeO rfl rfl rfl rfl rfl rfl H Upd.head rfl ?_); intro w H0; clear H; have H := H0; clear H0)
    refine Ops.pure H (X.assign rfl) rfl rfl rfl ?_
    refine Ops.pure H (X.assign rfl) rfl rfl rfl ?_
    (refine Ops.nil (hK _ _ ?_); clear hK K)
    refine Run.seq ?_
    (refine Run.region ?_; intro K hK)
    refine Ops.pure H (X.move rfl) rfl rfl rfl ?_
    have k410 := H.pick (b := b4) (by first | exact .head | exact .tail .head | exact .tail (.tail .head) | exact .tail (.tail (.tail .head)) | exact .tail (.tail (.tail (.tail .head))) | exact .tail (.tail (.tail (.tail (.tail .head)))) | exact .tail (.tail (.tail (.tail (.tail (.tail .head))))))
    have k7 := H.pick (b := b7) (by first | exact .head | exact .tail .head | exact .tail (.tail .head) | exact .tail (.tail (.tail .head)) | exact .tail (.tail (.tail (.tail .head))) | exact .tail (.tail (.tail (.tail (.tail .head)))) | exact .tail (.tail (.tail (.tail (.tail (.tail .head))))))
    have n7 := L9.p.npf hb7
    have hBx10 := hBx9.ext H.fr
    have hBy10 := hB9.ext H.fr
    have hnb9 := st9.nb.trans hnb8
    refine Ops.eff rfl (Y.call rfl rfl (by first | assumption | decide +kernel) rfl (recv_at _ g9 1 hnb9 (L9.p.ext H.fr)) rfl ?_)
    rintro v w10 ⟨g10, mv10, rfl, st10, hab10, hB10, hbl10⟩
    rw [L9.ab] at hab10 hB10 ⊢
    have L10 : Lone z w10 g10 _ := (L9.ext H.fr).step st10 hab10
    rw [lives_h3, lives_r3]
    obtain ⟨a10, c10, rfl⟩ := hB10.slice
    have k4A := st10.get k410 n49
    have k7A := st10.get k7 n7
    have hBxA : Bts w10 (.slice a8 ((0, [97]) : Nat × List Int).2.length c8) [97] := by obtain ⟨S, hfS, hS⟩ := st10.fr; exact hBx10.keep hfS (fun b hb hm => hx9 b hb (hS b hm))
    have hByA : Bts w10 (.slice a9 ((0, [98]) : Nat × List Int).2.length c9) [98] := by obtain ⟨S, hfS, hS⟩ := st10.fr; exact hBy10.keep hfS (fun b hb hm => (hbl9 b hb).2.1 (hS b hm))
    clear H
    have n47 : b7 ≠ b4 := by have := lt_of_at k49; omega
    have H := ((Holds.start w10 []).add false k4A (by simp) (by simp)).add false k7A (by simpa using n47) (by simp)
    refine Ops.pure H (X.move rfl) rfl rfl rfl ?_
    refine Ops.pure H (X.extract rfl rfl) rfl rfl rfl ?_
    refine Ops.pure H (X.extract rfl rfl) rfl rfl rfl ?_
    refine Ops.pure H (X.extract rfl rfl) rfl rfl rfl ?_
    (refine Ops.eff rfl (Y.alloc rfl rfl rfl H ?_); intro b10 w H0 hb10; clear H; have H := H0; clear H0)
    (refine Ops.eff rfl (Y.storeO rfl rfl rfl rfl rfl rfl H Upd.head rfl ?_); intro w H0; clear H; have H := H0; clear H0)
    refine Ops.pure H (X.assign rfl) rfl rfl rfl ?_
    refine Ops.pure H (X.assign rfl) rfl rfl rfl ?_
    (refine Ops.nil (hK _ _ ?_); clear hK K)
    refine Run.seq ?_
    (refine Run.region ?_; intro K hK)
    refine Ops.pure H (X.move rfl) rfl rfl rfl ?_
    refine Ops.pure H (X.move rfl) rfl rfl rfl ?_
    refine Ops.pure H (X.move rfl) rfl rfl rfl ?_
    refine Ops.pure H (X.pick_t rfl rfl) rfl rfl rfl ?_
    refine Ops.pure H (X.move rfl) rfl rfl rfl ?_
    refine Ops.pure H (X.move rfl) rfl rfl rfl ?_
    refine Ops.pure H (X.not rfl) rfl rfl rfl ?_
    refine Ops.pure H (X.pick_t rfl rfl) rfl rfl rfl ?_
    refine Ops.pure H (X.move rfl) rfl rfl rfl ?_
    refine Ops.pure H (X.move rfl) rfl rfl rfl ?_
    refine Ops.pure H (X.cmp rfl rfl rfl) rfl rfl rfl ?_
    refine Ops.pure H (X.pick_t rfl rfl) rfl rfl rfl ?_
    refine Ops.pure H (X.move rfl) rfl rfl rfl ?_
    refine Ops.pure H (X.move rfl) rfl rfl rfl ?_
    refine Ops.pure H (X.cmp rfl rfl rfl) rfl rfl rfl ?_
    refine Ops.pure H (X.pick_t rfl rfl) rfl rfl rfl ?_
    refine Ops.pure H (X.move rfl) rfl rfl rfl ?_
    refine Ops.pure H (X.move rfl) rfl rfl rfl ?_
    refine Ops.pure H (X.cmp rfl rfl rfl) rfl rfl rfl ?_
    refine Ops.pure H (X.pick_t rfl rfl) rfl rfl rfl ?_
    refine Ops.pure H (X.move rfl) rfl rfl rfl ?_
    refine Ops.pure H (X.fieldAddr rfl rfl rfl rfl rfl rfl) rfl rfl rfl ?_
    refine Ops.pure H (X.load1 rfl rfl rfl rfl (.tail (.tail .head)) rfl) rfl rfl rfl ?_
    refine Ops.split_dec rfl rfl (fun h97 => ?x4) (fun h97 => ?y4)
    case' y4 => exfalso; omega
    case' x4 => skip
    refine Ops.eff rfl (Y.bytesV rfl (hBxA.ext H.fr).bys rfl rfl rfl rfl rfl rfl rfl ?_)
    have q1 : (strOfNums [97]).toList = (ByteArray.mk #[97]).toList := by decide +kernel
    have q2 : (strOfNums [98]).toList = (ByteArray.mk #[98]).toList := by decide +kernel
    refine Ops.pure H (X.strEq rfl rfl) rfl rfl rfl ?_
    refine Ops.pure H (X.pick_t rfl rfl) rfl rfl rfl ?_
    refine Ops.pure H (X.move rfl) rfl rfl rfl ?_
    refine Ops.split_dec rfl rfl (fun h101 => ?x5) (fun h101 => ?y5)
    case' y5 =>
      refine Ops.pass rfl rfl rfl ?_
      refine Ops.pass rfl rfl rfl ?_
      refine Ops.pass rfl rfl rfl ?_
      refine Ops.pass rfl rfl rfl ?_
      refine Ops.pure H (X.pick_f rfl rfl) rfl rfl rfl ?_
      refine Ops.pure H (X.assign rfl) rfl rfl rfl ?_
      (refine Ops.nil (hK _ _ ?_); clear hK K)
    case' x5 =>
      refine Ops.pure H (X.fieldAddr rfl rfl rfl rfl rfl rfl) rfl rfl rfl ?_
      refine Ops.pure H (X.load1 rfl rfl rfl rfl (.tail .head) rfl) rfl rfl rfl ?_
    · refine Ops.eff rfl (Y.bytesV rfl (hByA.ext H.fr).bys rfl rfl rfl rfl rfl rfl rfl ?_)
      refine Ops.pure H (X.strEq rfl rfl) rfl rfl rfl ?_
      refine Ops.pure H (X.pick_t rfl rfl) rfl rfl rfl ?_
      refine Ops.pure H (X.assign rfl) rfl rfl rfl ?_
      (refine Ops.nil (hK _ _ ?_); clear hK K)
      (first | refine Fn.ret1 HF rfl rfl ?_ | refine Fn.ret2 HF rfl rfl rfl ?_ | refine Fn.ret3 HF rfl rfl rfl rfl ?_ | refine Fn.ret0 HF rfl ?_ | refine Fn.fin0 HF rfl ?_ | refine Fn.retG (E := env) HF rfl H (by first | exact RVs.cellN rfl rfl rfl (by first | exact .head | exact .tail .head | exact .tail (.tail .head) | exact .tail (.tail (.tail .head)) | exact .tail (.tail (.tail (.tail .head))) | exact .tail (.tail (.tail (.tail (.tail .head)))) | exact .tail (.tail (.tail (.tail (.tail (.tail .head)))))) (by first | assumption | exact Cs.take rfl) RVs.nil | exact RVs.cellN rfl rfl rfl (by first | exact .head | exact .tail .head | exact .tail (.tail .head) | exact .tail (.tail (.tail .head)) | exact .tail (.tail (.tail (.tail .head))) | exact .tail (.tail (.tail (.tail (.tail .head)))) | exact .tail (.tail (.tail (.tail (.tail (.tail .head)))))) (by first | assumption | exact Cs.take rfl) (RVs.tmp rfl RVs.nil) | exact RVs.cellN rfl rfl rfl (by first | exact .head | exact .tail .head | exact .tail (.tail .head) | exact .tail (.tail (.tail .head)) | exact .tail (.tail (.tail (.tail .head))) | exact .tail (.tail (.tail (.tail (.tail .head)))) | exact .tail (.tail (.tail (.tail (.tail (.tail .head)))))) (by first | assumption | exact Cs.take rfl) (RVs.tmp rfl (RVs.tmp rfl RVs.nil))) rfl ?_)
      exact ⟨by rw [decide_eq_true q2], (L10.ext H.fr).fr⟩
    · exact absurd q1 (by assumption)
structure AL where
  c : AC
  v : Value
def AActs (w : World) (a : Option Addr) (n b off : Nat) (cs : List Value) (T : TypeId) (fz : Nat × Nat) (A : Nat → AL) : Prop :=
  n ≤ 2199023255488 ∧ (0 < n → a = some ⟨b, off, none⟩ ∧ w.heap[b]? = some (.cells (List.toArray cs) T fz)) ∧ ∀ j, j < n → Cs cs (off + j * 6) 6 (acC (A j).c (A j).v) ∧ Bys w (A j).v (A j).c.b ∧ (A j).c.b.length ≤ 140737488351232 ∧ (-9223372036854775808 ≤ (A j).c.i ∧ (A j).c.i ≤ 9223372036854775807)
/-- The pair, and what is known of the program's network. -/
structure Solo (z w : World) (pb : Nat) (d : Value) (g : PG) (s : Ns) : Prop where
  p : PN w g
  fr : Fr z w []
  pr : w.heap[pb]? = some (row [.pointer (some ⟨g.nb, 0, none⟩), d] 34)
  pf : ¬ PF g pb
  nP : ∀ c, PF g c → z.heap.size ≤ c
  ag : g.abs = s
theorem Solo.step {z w w' : World} {pb : Nat} {d : Value} {g g' : PG} {s s' : Ns} (D : Solo z w pb d g s) (st : PStep w g w' g') (hg : g'.abs = s') : Solo z w' pb d g' s' := by
  obtain ⟨S, hf, hS⟩ := st.fr
  have hz := D.fr.size
  exact ⟨st.ok, D.fr.trans hf (by simp) (fun x hx hl => by have := D.nP x (hS x hx); omega), by rw [st.nb]; exact st.get D.pr D.pf, st.nPF (lt_of_at D.pr) D.pf, fun c hc => (st.own c hc).elim (D.nP c) (fun e => by omega), hg⟩
theorem Solo.ext {z w w' : World} {pb : Nat} {d : Value} {g : PG} {s : Ns} (D : Solo z w pb d g s) (hf : Fr w w' []) : Solo z w' pb d g s := D.step (.rfl' D.p hf) D.ag
theorem Unsure_at (z : World) (g : PG) (i j : Int) {nb : Nat} (hnb : g.nb = nb) (h : PN z g) (hb : ∀ a, (g.abs.way a).told ≤ (g.abs.way a).sent.length ∧ (g.abs.way a).sent.length ≤ 4611686018427387903) : Fn env.P 10 [.pointer (some ⟨nb, 0, none⟩), .int .i64 i, .int .i64 j] z fun v w' =>
    v = .tuple #[.int .i64 (if g.abs.isN i ∧ g.abs.isN j then (g.abs.way (i.toNat, j.toNat)).sent.length - (g.abs.way (i.toNat, j.toNat)).told else 0 : Nat), .int .i64 (if g.abs.isN i ∧ g.abs.isN j then 0 else 60)] ∧ ∃ g', PStep z g w' g' ∧ g'.abs = g.abs := by subst hnb; exact Unsure_any z g i j h hb
theorem flights_at (z : World) (g : PG) (k : Nat) {nb : Nat} (hnb : g.nb = nb) (h : PN z g) (hok : g.abs.Ok k) : Fn env.P 11 [.pointer (some ⟨nb, 0, none⟩)] z fun v w' => Fr z w' [] ∧ ∃ a cap, v = .slice a g.abs.fly.length cap := by
  subst hnb
  refine (flights_any z g k h hok).mono ?_
  rintro v w' ⟨hf, ob, ps, hL, hps, _⟩
  obtain ⟨a, cap, rfl, _⟩ := hL.slice
  have e : g.abs.fly.length = ps.length := by rw [← hps, List.length_map]
  exact ⟨hf, a, cap, by rw [e]⟩
theorem isN_nat (s : Ns) (i : Nat) (h : i < s.n) : s.isN (i : Nat) = true := by unfold Ns.isN; exact decide_eq_true (by omega)
end Go.Proofs.Ytpmihcefjdeonaa
