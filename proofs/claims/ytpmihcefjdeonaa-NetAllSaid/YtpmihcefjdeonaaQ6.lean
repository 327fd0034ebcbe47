/- Walks of layer 6: the document's Recv. -/
import Derived.Test.YtpmihcefjdeonaaQ5
namespace Go.Proofs.Ytpmihcefjdeonaa
open Go
set_option maxRecDepth 20000
set_option maxHeartbeats 2000000
attribute [local irreducible] Run Ops Fn Draw Draw2 PureOp StepZ

theorem ms_one {w : World} {l : List ((Nat × List Int) × Value)} (h : ∀ p ∈ l, Bts w p.2 p.1.2) : ∀ v ∈ l.flatMap msC, v.oneCell' = true := by
  intro v hv
  obtain ⟨p, hp, hv⟩ := List.mem_flatMap.1 hv
  simp [msC] at hv
  rcases hv with rfl | rfl <;> first | rfl | exact (h p hp).one
theorem rrecv_any (z : World) (g : RG) (i : Int) {rb : Nat} (k : Nat) (hrb : g.rb = rb) (h : RN z g) (hok : g.abs.Ok k) (hk : k ≤ 4398046511000) : Fn env.P 28 [.pointer (some ⟨rb, 0, none⟩), .int .i64 i] z fun v w' =>
    (g.abs.head i = none ∧ v = .tuple #[.agg (msC ((0, []), .slice none 0 0)).toArray, .bool false, .int .i64 (g.abs.recvE i)] ∧ Fr z w' [] ∧ g.abs.recv i = g.abs) ∨
    ∃ m mv g', g.abs.head i = some m ∧ g.abs.recvE i = 0 ∧ v = .tuple #[.agg (msC (m, mv)).toArray, .bool true, .int .i64 0] ∧ RStep z g w' g' ∧ g'.abs = g.abs.recv i ∧ Bts w' mv m.2 ∧ (∀ b, blkV mv = some b → RB g b) := by
  subst hrb
  obtain ⟨tv, yv, xv, av, a1, a2, a3, ⟨xoff, xcap, xs, rfl, x2, x3, x4, x5, x6⟩, a5⟩ := h.net
  have hxr : g.xb ≠ g.rb := ne_of_ty x4 a1 (by decide)
  have H := ((Holds.start z []).add false a1 (by simp) (by simp)).add false x4 (by simpa using hxr) (by simp)
  have HF := Try.func28; refine Fn.enter Try.func28 Try.ntmps28 rfl rfl rfl ?_
  refine Run.seq ?_
  (refine Run.region ?_; intro K hK)
  (refine Ops.eff rfl (Y.alloc rfl rfl rfl H ?_); intro b4 w H0 hb4; clear H; have H := H0; clear H0)
  refine Ops.pure H (X.assign rfl) rfl rfl rfl ?_
  refine Ops.pure H (X.assign rfl) rfl rfl rfl ?_
  (refine Ops.nil (hK _ _ ?_); clear hK K)
  refine Run.seq ?_
  refine Run.seq ?_
  (refine Run.region ?_; intro K hK)
  refine Ops.pure H (X.move rfl) rfl rfl rfl ?_
  refine Ops.pure H (X.move rfl) rfl rfl rfl ?_
  refine Ops.eff rfl (Y.call rfl rfl (by first | assumption | decide +kernel) rfl (rIs_any _ g i rfl (h.ext H.fr)) rfl ?_)
  rintro v w1 ⟨rfl, rfl⟩
  cases hi : g.abs.there i with
  | false =>
    refine Ops.pure H (X.not rfl) rfl rfl rfl ?_
    (refine Ops.nil (hK _ _ ?_); clear hK K)
    refine Run.cond_true rfl ?_
    refine Run.seq ?_
    (refine Run.region ?_; intro K hK)
    refine Ops.pure H (X.buildO rfl rfl rfl rfl rfl rfl) rfl rfl rfl ?_
    (refine Ops.eff rfl (Y.storeO rfl rfl rfl rfl rfl rfl H Upd.head rfl ?_); intro w H0; clear H; have H := H0; clear H0)
    refine Ops.pure H (X.assign rfl) rfl rfl rfl ?_
    refine Ops.pure H (X.assign rfl) rfl rfl rfl ?_
    (refine Ops.nil (hK _ _ ?_); clear hK K)
    (first | refine Fn.ret1 HF rfl rfl ?_ | refine Fn.ret2 HF rfl rfl rfl ?_ | refine Fn.ret3 HF rfl rfl rfl rfl ?_ | refine Fn.ret0 HF rfl ?_ | refine Fn.fin0 HF rfl ?_ | refine Fn.retG (E := env) HF rfl H (by first | exact RVs.cellN rfl rfl rfl (by first | exact .head | exact .tail .head | exact .tail (.tail .head) | exact .tail (.tail (.tail .head)) | exact .tail (.tail (.tail (.tail .head))) | exact .tail (.tail (.tail (.tail (.tail .head)))) | exact .tail (.tail (.tail (.tail (.tail (.tail .head)))))) (by first | assumption | exact Cs.take rfl) RVs.nil | exact RVs.cellN rfl rfl rfl (by first | exact .head | exact .tail .head | exact .tail (.tail .head) | exact .tail (.tail (.tail .head)) | exact .tail (.tail (.tail (.tail .head))) | exact .tail (.tail (.tail (.tail (.tail .head)))) | exact .tail (.tail (.tail (.tail (.tail (.tail .head)))))) (by first | assumption | exact Cs.take rfl) (RVs.tmp rfl RVs.nil) | exact RVs.cellN rfl rfl rfl (by first | exact .head | exact .tail .head | exact .tail (.tail .head) | exact .tail (.tail (.tail .head)) | exact .tail (.tail (.tail (.tail .head))) | exact .tail (.tail (.tail (.tail (.tail .head)))) | exact .tail (.tail (.tail (.tail (.tail (.tail .head)))))) (by first | assumption | exact Cs.take rfl) (RVs.tmp rfl (RVs.tmp rfl RVs.nil))) rfl ?_)
    exact .inl ⟨by simp [Ns.head, hi], by simp [Ns.recvE, hi]; rfl, H.fr, by simp [Ns.recv, hi]⟩
  | true =>
    obtain ⟨j, rfl, hj, _⟩ := there_iff.1 hi
    replace hj : j < g.n := hj
    have hL := h.box j hj
    have hbb := h.boxb j hj
    have hxc : xs[xoff + j * 1]? = some (g.bv j) := (Cs.flat (sz := 1) (f := fun i => [g.bv i]) (fun _ => rfl) x6 hj).get 0 _ rfl
    have hbl := (hok.box j).1
    rw [rabs_box, List.length_map] at hbl
    cases hbx : g.box j with
    | nil =>
      rw [hbx] at hL
      obtain ⟨va, vc, hbv, _⟩ := hL.slice
      rw [hbv] at hxc
      simp only [List.length_nil] at hxc
      refine Ops.pure H (X.not rfl) rfl rfl rfl ?_
      (refine Ops.nil (hK _ _ ?_); clear hK K)
      refine Run.cond_false rfl ?_
      refine Run.skip ?_
      refine Run.seq ?_
      refine Run.seq ?_
      (refine Run.region ?_; intro K hK)
      refine Ops.pure H (X.move rfl) rfl rfl rfl ?_
      refine Ops.pure H (X.nilCheck rfl) rfl rfl rfl ?_
      refine Ops.pure H (X.fieldAddr rfl rfl rfl rfl rfl rfl) rfl rfl rfl ?_
      refine Ops.pure H (X.load1 rfl rfl rfl rfl (.tail (.tail .head)) rfl) rfl rfl rfl ?_
      refine Ops.pure H (X.move rfl) rfl rfl rfl ?_
      refine Ops.pure H (X.indexAddr rfl rfl (by omega) rfl rfl rfl rfl) rfl rfl rfl ?_
      refine Ops.pure H (X.load1 rfl rfl rfl rfl (.tail .head) (by assumption)) rfl rfl rfl ?_
      refine Ops.pure H (X.len_slice rfl rfl rfl) rfl rfl rfl ?_
      refine Ops.pure H (X.cmp rfl rfl rfl) rfl rfl rfl ?_
      (refine Ops.nil (hK _ _ ?_); clear hK K)
      refine Run.cond_true rfl ?_
      refine Run.seq ?_
      (refine Run.region ?_; intro K hK)
      refine Ops.pure H (X.buildO rfl rfl rfl rfl rfl rfl) rfl rfl rfl ?_
      (refine Ops.eff rfl (Y.storeO rfl rfl rfl rfl rfl rfl H Upd.head rfl ?_); intro w H0; clear H; have H := H0; clear H0)
      refine Ops.pure H (X.assign rfl) rfl rfl rfl ?_
      refine Ops.pure H (X.assign rfl) rfl rfl rfl ?_
      (refine Ops.nil (hK _ _ ?_); clear hK K)
      (first | refine Fn.ret1 HF rfl rfl ?_ | refine Fn.ret2 HF rfl rfl rfl ?_ | refine Fn.ret3 HF rfl rfl rfl rfl ?_ | refine Fn.ret0 HF rfl ?_ | refine Fn.fin0 HF rfl ?_ | refine Fn.retG (E := env) HF rfl H (by first | exact RVs.cellN rfl rfl rfl (by first | exact .head | exact .tail .head | exact .tail (.tail .head) | exact .tail (.tail (.tail .head)) | exact .tail (.tail (.tail (.tail .head))) | exact .tail (.tail (.tail (.tail (.tail .head)))) | exact .tail (.tail (.tail (.tail (.tail (.tail .head)))))) (by first | assumption | exact Cs.take rfl) RVs.nil | exact RVs.cellN rfl rfl rfl (by first | exact .head | exact .tail .head | exact .tail (.tail .head) | exact .tail (.tail (.tail .head)) | exact .tail (.tail (.tail (.tail .head))) | exact .tail (.tail (.tail (.tail (.tail .head)))) | exact .tail (.tail (.tail (.tail (.tail (.tail .head)))))) (by first | assumption | exact Cs.take rfl) (RVs.tmp rfl RVs.nil) | exact RVs.cellN rfl rfl rfl (by first | exact .head | exact .tail .head | exact .tail (.tail .head) | exact .tail (.tail (.tail .head)) | exact .tail (.tail (.tail (.tail .head))) | exact .tail (.tail (.tail (.tail (.tail .head)))) | exact .tail (.tail (.tail (.tail (.tail (.tail .head)))))) (by first | assumption | exact Cs.take rfl) (RVs.tmp rfl (RVs.tmp rfl RVs.nil))) rfl ?_)
      refine .inl ⟨by simp [Ns.head, hi, rabs_box, hbx], by simp [Ns.recvE, hi]; rfl, H.fr, ?_⟩
      simp only [Ns.recv, hi, if_true, Int.toNat_natCast]
      have : (g.abs.box j).tail = g.abs.box j := by rw [rabs_box, hbx]; rfl
      rw [this, setB_abs]
    | cons m ms =>
      rw [hbx] at hL hbb hbl
      simp only [List.length_cons] at hbl
      obtain ⟨⟨fr, bs⟩, mv⟩ := m
      have hBm := hbb _ (List.mem_cons_self ..)
      dsimp only at hBm
      obtain ⟨ma, mc, rfl⟩ := hBm.slice
      obtain ⟨b, off, cap, cs, hob, hbv, l1, l2, l3, l4, l5⟩ := hL.pos (by simp)
      simp only [List.length_cons] at hbv l1 l5
      rw [hbv] at hxc
      have hcell : Cs cs (off + 0 * 2) 2 [.int .i64 (fr : Nat), .slice ma bs.length mc] := (l5.sub 0 2 (by omega)).cast rfl rfl (by simp [msC])
      have hrest : Cs cs (off + 1 * 2) (ms.length * 2) (ms.flatMap msC) := (l5.sub 2 (ms.length * 2) (by omega)).cast (by omega) rfl (by
        rw [List.flatMap_cons]
        show List.take (ms.length * 2) (ms.flatMap msC) = ms.flatMap msC
        rw [← ms_len ms, List.take_length])
      have hbz := lt_of_at l3
      have hd := H.fr
      have hbr : b ≠ g.rb ∧ b ≠ g.xb := ⟨ne_of_ty l3 a1 (by decide), ne_of_ty l3 x4 (by decide)⟩
      replace H := H.add false (hd.get l3 (by simp)) (by simp; exact ⟨by omega, by omega⟩) (by simp)
      refine Ops.pure H (X.not rfl) rfl rfl rfl ?_
      (refine Ops.nil (hK _ _ ?_); clear hK K)
      refine Run.cond_false rfl ?_
      refine Run.skip ?_
      refine Run.seq ?_
      refine Run.seq ?_
      (refine Run.region ?_; intro K hK)
      refine Ops.pure H (X.move rfl) rfl rfl rfl ?_
      refine Ops.pure H (X.nilCheck rfl) rfl rfl rfl ?_
      refine Ops.pure H (X.fieldAddr rfl rfl rfl rfl rfl rfl) rfl rfl rfl ?_
      refine Ops.pure H (X.load1 rfl rfl rfl rfl (.tail (.tail (.tail .head))) rfl) rfl rfl rfl ?_
      refine Ops.pure H (X.move rfl) rfl rfl rfl ?_
      refine Ops.pure H (X.indexAddr rfl rfl (by omega) rfl rfl rfl rfl) rfl rfl rfl ?_
      refine Ops.pure H (X.load1 rfl rfl rfl rfl (.tail (.tail .head)) (by assumption)) rfl rfl rfl ?_
      refine Ops.pure H (X.len_slice rfl rfl rfl) rfl rfl rfl ?_
      refine Ops.pure H (X.cmp rfl rfl rfl) rfl rfl rfl ?_
      (refine Ops.nil (hK _ _ ?_); clear hK K)
      refine Run.cond_false rfl ?_
      refine Run.skip ?_
      refine Run.seq ?_
      (refine Run.region ?_; intro K hK)
      refine Ops.pure H (X.move rfl) rfl rfl rfl ?_
      refine Ops.pure H (X.nilCheck rfl) rfl rfl rfl ?_
      refine Ops.pure H (X.fieldAddr rfl rfl rfl rfl rfl rfl) rfl rfl rfl ?_
      refine Ops.pure H (X.load1 rfl rfl rfl rfl (.tail (.tail (.tail .head))) rfl) rfl rfl rfl ?_
      refine Ops.pure H (X.move rfl) rfl rfl rfl ?_
      refine Ops.pure H (X.indexAddr rfl rfl (by omega) rfl rfl rfl rfl) rfl rfl rfl ?_
      refine Ops.pure H (X.load1 rfl rfl rfl rfl (.tail (.tail .head)) (by assumption)) rfl rfl rfl ?_
      refine Ops.pure H (X.indexAddrK (j := 0) rfl rfl rfl (by omega) rfl rfl rfl rfl) rfl rfl rfl ?_
      refine Ops.pure H (X.loadN rfl rfl rfl Pick.head (by assumption)) rfl rfl rfl ?_
      (refine Ops.eff rfl (Y.alloc rfl rfl rfl H ?_); intro b7 w H0 hb7; clear H; have H := H0; clear H0)
      (refine Ops.eff rfl (Y.storeO rfl rfl rfl rfl rfl rfl H Upd.head rfl ?_); intro w H0; clear H; have H := H0; clear H0)
      (refine Ops.nil (hK _ _ ?_); clear hK K)
      refine Run.seq ?_
      have hF6 := H.fr
      have hnd6 := H.nd
      simp at hnd6
      have hlG := H.ltG
      replace H := H.anew (S' := [b7, b4, g.xb]) (G' := [⟨_, _, true⟩, ⟨_, _, false⟩, ⟨_, _, true⟩, ⟨_, _, true⟩, ⟨_, _, false⟩]) (by repeat constructor) (by simp)
      refine Run.draw H [16] [0, 1, 2, 3, 4, 6, 7, 8, 9, 10, 11, 12, 13, 5, 14, 15, 16] ?_
      clear H
      intro K hK w H
      refine Draw.take0 rfl (X.move rfl) rfl rfl rfl (by decide +kernel) ?_
      refine Draw.take0 rfl (X.nilCheck rfl) rfl rfl rfl (by decide +kernel) ?_
      refine Draw.take0 rfl (X.fieldAddr rfl rfl rfl rfl rfl rfl) rfl rfl rfl (by decide +kernel) ?_
      refine Draw.take rfl (X.load1 rfl rfl rfl rfl (.tail (.tail (.tail (.tail .head)))) rfl) rfl rfl rfl (by decide +kernel) ?_
      refine Draw.take0 rfl (X.move rfl) rfl rfl rfl (by decide +kernel) ?_
      refine Draw.take0 rfl (X.move rfl) rfl rfl rfl (by decide +kernel) ?_
      refine Draw.take0 rfl (X.nilCheck rfl) rfl rfl rfl (by decide +kernel) ?_
      refine Draw.take0 rfl (X.fieldAddr rfl rfl rfl rfl rfl rfl) rfl rfl rfl (by decide +kernel) ?_
      refine Draw.take rfl (X.load1 rfl rfl rfl rfl (.tail (.tail (.tail (.tail .head)))) rfl) rfl rfl rfl (by decide +kernel) ?_
      refine Draw.take0 rfl (X.move rfl) rfl rfl rfl (by decide +kernel) ?_
      refine Draw.take0 rfl (X.indexAddr rfl rfl (by omega) rfl rfl rfl rfl) rfl rfl rfl (by decide +kernel) ?_
      refine Draw.take rfl (X.load1 rfl rfl rfl rfl (.tail (.tail (.tail .head))) (by assumption)) rfl rfl rfl (by decide +kernel) ?_
      refine Draw.take0 rfl (X.slice_l (j := 1) rfl rfl (by omega) rfl rfl rfl rfl) rfl rfl rfl (by decide +kernel) ?_
      have hw0 := H.fr.size
      refine Draw.eff (i := 5) rfl rfl (by decide +kernel) (Y.buildSliceO rfl rfl rfl rfl rfl rfl rfl rfl H ?_)
      intro b37 w H hb37
      refine ⟨fun e he => H.at_ e (List.mem_cons_of_mem _ he), ?_⟩
      have hnd7 := H.nd
      simp at hnd7
      have hlG7 := H.ltG
      refine Draw.eff (i := 14) rfl rfl (by decide +kernel) (Y.copyOf2 (sz := 2) (m := ms.length) (news := ms.flatMap msC) rfl rfl rfl rfl rfl rfl H .head hb37 (ms_len ms) ?_ rfl (by dsimp only; omega) (by omega) rfl ?_)
      · by_cases h1 : cap = 1
        · have : ms = [] := List.eq_nil_of_length_eq_zero (by omega)
          subst this
          exact Src.nil
        · rw [if_neg h1]
          exact Src.row H (.tail (.tail .head)) hrest
      intro v46 c46 w H hf46 L46 z46 e46
      refine ⟨H.at_, ?_⟩
      have hF46 := H.fr
      have hc46 := L46.lt rfl
      have hcn : c46 ≠ b4 ∧ c46 ≠ g.xb := by
        have q1 := hlG ⟨b4, _, true⟩ (List.mem_cons_of_mem _ (List.mem_cons_of_mem _ (List.mem_cons_self ..)))
        have q2 := hlG ⟨g.xb, _, false⟩ (List.mem_cons_of_mem _ (List.mem_cons_of_mem _ (List.mem_cons_of_mem _ (List.mem_cons_self ..))))
        dsimp only at q1 q2
        omega
      obtain ⟨a46, cc46, rfl, _⟩ := L46.slice
      replace H := H.anew (S' := [b4, g.xb]) (G' := [⟨_, _, false⟩, ⟨_, _, false⟩, ⟨_, _, true⟩, ⟨_, _, true⟩, ⟨_, _, false⟩]) (by repeat constructor) (by simp)
      refine Draw.take0 rfl (X.indexAddr rfl rfl (by omega) rfl rfl rfl rfl) rfl rfl rfl (by decide +kernel) ?_
      (refine Draw.last rfl rfl (by decide +kernel) (Y.storeI rfl rfl rfl rfl rfl rfl H (.tail (.tail (.tail .head))) (by omega) ?_); intro w H0; clear H; have H := H0; clear H0)
      (refine Draw2.done (by decide +kernel) (hK _ _ ?_); clear hK K)
      refine Run.seq ?_
      (refine Run.region ?_; intro K hK)
      refine Ops.pure H (X.loadN rfl rfl rfl Pick.head (Cs.take rfl)) rfl rfl rfl ?_
      (refine Ops.eff rfl (Y.storeO rfl rfl rfl rfl rfl rfl H (.tail (.tail .head)) rfl ?_); intro w H0; clear H; have H := H0; clear H0)
      refine Ops.pure H (X.assign rfl) rfl rfl rfl ?_
      refine Ops.pure H (X.assign rfl) rfl rfl rfl ?_
      (refine Ops.nil (hK _ _ ?_); clear hK K)
      (first | refine Fn.ret1 HF rfl rfl ?_ | refine Fn.ret2 HF rfl rfl rfl ?_ | refine Fn.ret3 HF rfl rfl rfl rfl ?_ | refine Fn.ret0 HF rfl ?_ | refine Fn.fin0 HF rfl ?_ | refine Fn.retG (E := env) HF rfl H (by first | exact RVs.cellN rfl rfl rfl (by first | exact .head | exact .tail .head | exact .tail (.tail .head) | exact .tail (.tail (.tail .head)) | exact .tail (.tail (.tail (.tail .head))) | exact .tail (.tail (.tail (.tail (.tail .head)))) | exact .tail (.tail (.tail (.tail (.tail (.tail .head)))))) (by first | assumption | exact Cs.take rfl) RVs.nil | exact RVs.cellN rfl rfl rfl (by first | exact .head | exact .tail .head | exact .tail (.tail .head) | exact .tail (.tail (.tail .head)) | exact .tail (.tail (.tail (.tail .head))) | exact .tail (.tail (.tail (.tail (.tail .head)))) | exact .tail (.tail (.tail (.tail (.tail (.tail .head)))))) (by first | assumption | exact Cs.take rfl) (RVs.tmp rfl RVs.nil) | exact RVs.cellN rfl rfl rfl (by first | exact .head | exact .tail .head | exact .tail (.tail .head) | exact .tail (.tail (.tail .head)) | exact .tail (.tail (.tail (.tail .head))) | exact .tail (.tail (.tail (.tail (.tail .head)))) | exact .tail (.tail (.tail (.tail (.tail (.tail .head)))))) (by first | assumption | exact Cs.take rfl) (RVs.tmp rfl (RVs.tmp rfl RVs.nil))) rfl ?_)
      have hT := (hF6.trans (U := [g.xb]) hF46 (by simp) (fun x hx hl => by simp at hx ⊢; omega)).trans (U := [g.xb]) H.fr (by simp) (fun x hx hl => by simp at hx ⊢; omega)
      have h5x : ∀ b ∈ [g.xb], ∀ cs, z.heap[b]? ≠ some (row cs 5) := fun b hb => by simp at hb; subst hb; exact not5 x4 (by decide)
      have st := h.setBox (i := j) (ms' := ms) (ob' := some c46) (v' := .slice a46 ms.length cc46) hj hT ⟨_, _, _, a1⟩ x4 (by have := H.pick (b := g.xb) (by first | exact .head | exact .tail .head | exact .tail (.tail .head) | exact .tail (.tail (.tail .head)) | exact .tail (.tail (.tail (.tail .head))) | exact .tail (.tail (.tail (.tail (.tail .head)))) | exact .tail (.tail (.tail (.tail (.tail (.tail .head)))))); simpa [putC] using this) (L46.keep H.fr (fun b hb => by cases hb; simp; exact hcn)) (fun q hq => ⟨(hbb q (List.mem_cons_of_mem _ hq)).keepT hT h5x, fun b hb => .inl (.inr (.inl ⟨j, q, hj, by rw [hbx]; exact List.mem_cons_of_mem _ hq, hb⟩))⟩) (fun b hb => by
        cases hb
        have := hF6.size
        exact .inr (by omega))
      refine .inr ⟨(fr, bs), .slice ma bs.length mc, _, by simp [Ns.head, hi, rabs_box, hbx], by simp [Ns.recvE, hi], rfl, st, ?_, hBm.keepT hT h5x, fun b hb => .inr (.inl ⟨j, _, hj, by rw [hbx]; exact List.mem_cons_self .., hb⟩)⟩
      rw [rabs_updb]
      simp only [Ns.recv, hi, if_true, Int.toNat_natCast, rabs_box, hbx, List.map_cons, List.tail_cons]
end Go.Proofs.Ytpmihcefjdeonaa
