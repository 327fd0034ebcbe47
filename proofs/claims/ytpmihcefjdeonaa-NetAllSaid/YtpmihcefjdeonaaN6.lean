/- Walks of layer 6: packet, flies, Twice. -/
import Derived.Test.YtpmihcefjdeonaaN5
namespace Go.Proofs.Ytpmihcefjdeonaa
open Go
set_option maxRecDepth 20000
set_option maxHeartbeats 2000000
attribute [local irreducible] Run Ops Fn Draw Draw2 PureOp StepZ

def Ns.flies (s : Ns) (p : Pk) : Ns := if s.fly.length < 4096 then { s with fly := s.fly ++ [p] } else s
theorem oneN (l : List (List Int × Value)) (i : Nat) (h : i < l.length) : (l.map (·.2))[i]? = some (l[i].2) := by simp [h]
theorem packet_any (z : World) (c : WG) (f t no : Nat) (h : WayAt z c) (h1 : 1 ≤ no) (h2 : no ≤ c.ss.length) (h3 : c.ss.length ≤ 4611686018427387903) (hb : ∀ p ∈ c.ss, Bts z p.2 p.1) : Fn env.P 47 [.pointer (some ⟨c.wb, 0, none⟩), .int .i64 (f : Nat), .int .i64 (t : Nat), .int .i64 (no : Nat)] z fun v w' =>
    ∃ p, p ∈ c.ss ∧ c.ss[no - 1]? = some p ∧ v = .agg (pkC (⟨f, t, false, no, c.ep, p.1⟩, p.2)).toArray ∧ Fr z w' [] := by
  obtain ⟨sv, c1, c2⟩ := h
  obtain ⟨b, off, cap, cs, hsb, rfl, l1, l2, l3, l4, l5⟩ := c2.pos (by omega)
  have H := ((Holds.start z []).add false l3 (by simp) (by simp)).add false c1 (by simpa using ne_of_ty c1 l3 (by decide)) (by simp)
  have hlt : no - 1 < c.ss.length := by omega
  have hsub : ((no : Nat) : Int) - 1 = ((no - 1 : Nat) : Int) := by omega
  obtain ⟨pa, pc, hpv⟩ := (hb _ (List.getElem_mem hlt)).slice
  obtain ⟨pn, hpn⟩ : ∃ n, n = (c.ss[no - 1]).1.length := ⟨_, rfl⟩
  rw [← hpn] at hpv
  have hcell : cs[off + (no - 1) * 1]? = some (.slice pa pn pc) := by
    rw [l5.toGet (j := (no - 1) * 1) (by omega), Nat.mul_one]
    rw [← hpv]
    exact oneN _ _ hlt
  have hw : IntKind.u64.wrap (no : Nat) = (no : Nat) := IntWalk.u64_in _ (by omega)
  have HF := Try.func47; refine Fn.enter Try.func47 Try.ntmps47 rfl rfl rfl ?_
  refine Run.seq ?_
  (refine Run.region ?_; intro K hK)
  (refine Ops.eff rfl (Y.alloc rfl rfl rfl H ?_); intro b8 w H0 hb8; clear H; have H := H0; clear H0)
  (refine Ops.nil (hK _ _ ?_); clear hK K)
  refine Run.seq ?_
  (refine Run.draw H [17] [0, 1, 2, 3, 4, 5, 6, 7, 8, 9, 10, 11, 12, 13, 14, 15, 16, 17] ?_; clear H; intro K hK w H)
  refine Draw.take0 rfl (X.move rfl) rfl rfl rfl (by decide +kernel) ?_
  refine Draw.take0 rfl (X.move rfl) rfl rfl rfl (by decide +kernel) ?_
  refine Draw.take0 rfl (X.move rfl) rfl rfl rfl (by decide +kernel) ?_
  refine Draw.take0 rfl (X.conv rfl rfl rfl rfl rfl (u64_in _ (by omega))) rfl rfl rfl (by decide +kernel) ?_
  refine Draw.take0 rfl (X.move rfl) rfl rfl rfl (by decide +kernel) ?_
  refine Draw.take0 rfl (X.nilCheck rfl) rfl rfl rfl (by decide +kernel) ?_
  refine Draw.take0 rfl (X.fieldAddr rfl rfl rfl rfl rfl rfl) rfl rfl rfl (by decide +kernel) ?_
  refine Draw.take rfl (X.load1 rfl rfl rfl rfl (.tail .head) rfl) rfl rfl rfl (by decide +kernel) ?_
  refine Draw.take0 rfl (X.move rfl) rfl rfl rfl (by decide +kernel) ?_
  refine Draw.take0 rfl (X.nilCheck rfl) rfl rfl rfl (by decide +kernel) ?_
  refine Draw.take0 rfl (X.fieldAddr rfl rfl rfl rfl rfl rfl) rfl rfl rfl (by decide +kernel) ?_
  refine Draw.take rfl (X.load1 rfl rfl rfl rfl (.tail .head) rfl) rfl rfl rfl (by decide +kernel) ?_
  refine Draw.take0 rfl (X.move rfl) rfl rfl rfl (by decide +kernel) ?_
  refine Draw.take0 rfl (X.sub_in rfl rfl (IntWalk.i64_in _ (by omega))) rfl rfl rfl (by decide +kernel) ?_
  rw [hsub]
  refine Draw.take0 rfl (X.indexAddr rfl rfl (by omega) rfl rfl rfl rfl) rfl rfl rfl (by decide +kernel) ?_
  refine Draw.take rfl (X.load1 rfl rfl rfl rfl (.tail (.tail .head)) (by assumption)) rfl rfl rfl (by decide +kernel) ?_
  refine Draw.take0 rfl (X.buildO rfl rfl rfl rfl rfl rfl) rfl rfl rfl (by decide +kernel) ?_
  (refine Draw.last rfl rfl (by decide +kernel) (Y.storeO rfl rfl rfl rfl rfl rfl H Upd.head rfl ?_); intro w H0; clear H; have H := H0; clear H0)
  (refine Draw2.done (by decide +kernel) (hK _ _ ?_); clear hK K)
  (first | refine Fn.ret1 HF rfl rfl ?_ | refine Fn.ret2 HF rfl rfl rfl ?_ | refine Fn.ret3 HF rfl rfl rfl rfl ?_ | refine Fn.ret0 HF rfl ?_ | refine Fn.fin0 HF rfl ?_ | refine Fn.retG (E := env) HF rfl H (by first | exact RVs.cellN rfl rfl rfl (by first | exact .head | exact .tail .head | exact .tail (.tail .head) | exact .tail (.tail (.tail .head)) | exact .tail (.tail (.tail (.tail .head))) | exact .tail (.tail (.tail (.tail (.tail .head)))) | exact .tail (.tail (.tail (.tail (.tail (.tail .head)))))) (by first | assumption | exact Cs.take rfl) RVs.nil | exact RVs.cellN rfl rfl rfl (by first | exact .head | exact .tail .head | exact .tail (.tail .head) | exact .tail (.tail (.tail .head)) | exact .tail (.tail (.tail (.tail .head))) | exact .tail (.tail (.tail (.tail (.tail .head)))) | exact .tail (.tail (.tail (.tail (.tail (.tail .head)))))) (by first | assumption | exact Cs.take rfl) (RVs.tmp rfl RVs.nil) | exact RVs.cellN rfl rfl rfl (by first | exact .head | exact .tail .head | exact .tail (.tail .head) | exact .tail (.tail (.tail .head)) | exact .tail (.tail (.tail (.tail .head))) | exact .tail (.tail (.tail (.tail (.tail .head)))) | exact .tail (.tail (.tail (.tail (.tail (.tail .head)))))) (by first | assumption | exact Cs.take rfl) (RVs.tmp rfl (RVs.tmp rfl RVs.nil))) rfl ?_)
  exact ⟨c.ss[no - 1], List.getElem_mem _, by simp [hlt], by rw [hpv]; rfl, H.fr⟩
theorem packet_at (z : World) (c : WG) (f t no : Nat) {wb : Nat} (hcw : c.wb = wb) (h : WayAt z c) (h1 : 1 ≤ no) (h2 : no ≤ c.ss.length) (h3 : c.ss.length ≤ 4611686018427387903) (hb : ∀ p ∈ c.ss, Bts z p.2 p.1) : Fn env.P 47 [.pointer (some ⟨wb, 0, none⟩), .int .i64 (f : Nat), .int .i64 (t : Nat), .int .i64 (no : Nat)] z fun v w' =>
    ∃ p, p ∈ c.ss ∧ c.ss[no - 1]? = some p ∧ v = .agg (pkC (⟨f, t, false, no, c.ep, p.1⟩, p.2)).toArray ∧ Fr z w' [] := by
  subst hcw
  exact packet_any z c f t no h h1 h2 h3 hb
/-- A packet flies, if there is room. -/
theorem flies_any (z : World) (g : PG) (p : Pk) (v : Value) (h : PN z g) (hv : Bts z v p.b) (hl : p.b.length ≤ 140737488355327) (hfl : g.fly.length ≤ 4096) : Fn env.P 46 [.pointer (some ⟨g.nb, 0, none⟩), .agg (pkC (p, v)).toArray] z fun _ w' =>
    ∃ g', PStep z g w' g' ∧ g'.abs = g.abs.flies p ∧ g'.way = g.way ∧ g'.box = g.box ∧ g'.fly.length ≤ 4096 ∧ Fr z w' (g.fb.toList ++ [g.nb]) := by
  obtain ⟨cu, cx, fv, a1, a2, a3, a4, a5, a6⟩ := h.net
  obtain ⟨va, vc, rfl⟩ := hv.slice
  obtain ⟨fa, fc, rfl, _⟩ := a6.slice
  obtain ⟨nr, hnr⟩ := h.tyNet
  have hfn : ∀ b, g.fb = some b → b ≠ g.nb := fun b hb => by obtain ⟨cs, hc⟩ := h.tyFly hb; exact ne_of_ty hc hnr (by decide)
  have h5 : ∀ b ∈ [g.nb], ∀ cs, z.heap[b]? ≠ some (row cs 5) := by intro b hb; simp at hb; subst hb; exact not5 hnr (by decide)
  have hnl := lt_of_at hnr
  have H := (Holds.start z [g.nb]).add true a1 (by simp) (by simp)
  unfold pkC
  have HF := Try.func46; refine Fn.enter Try.func46 Try.ntmps46 rfl rfl rfl ?_
  refine Run.seq ?_
  (refine Run.region ?_; intro K hK)
  (refine Ops.eff rfl (Y.box rfl rfl rfl H ?_); intro b3 w H0 hb3; clear H; have H := H0; clear H0)
  (refine Ops.nil (hK _ _ ?_); clear hK K)
  refine Run.seq ?_
  (refine Run.region ?_; intro K hK)
  refine Ops.pure H (X.move rfl) rfl rfl rfl ?_
  refine Ops.pure H (X.nilCheck rfl) rfl rfl rfl ?_
  refine Ops.pure H (X.fieldAddr rfl rfl rfl rfl rfl rfl) rfl rfl rfl ?_
  refine Ops.pure H (X.load1 rfl rfl rfl rfl (.tail .head) rfl) rfl rfl rfl ?_
  refine Ops.pure H (X.len_slice rfl rfl rfl) rfl rfl rfl ?_
  refine Ops.pure H (X.cmp rfl rfl rfl) rfl rfl rfl ?_
  (refine Ops.nil (hK _ _ ?_); clear hK K)
  refine Run.cond_dec rfl (fun h9 => ?x0) (fun h9 => ?y0)
  case' y0 =>
    refine Run.skip ?_
  case' x0 =>
    refine Run.seq ?_
    (refine Run.region ?_; intro K hK)
    refine Ops.pure H (X.fieldAddr rfl rfl rfl rfl rfl rfl) rfl rfl rfl ?_
    refine Ops.pure H (X.load1 rfl rfl rfl rfl Pick.head rfl) rfl rfl rfl ?_
  · have hF0 := H.fr
    refine Ops.eff rfl (Y.call rfl rfl (by first | assumption | decide +kernel) rfl (bclone_any _ _ p.b (hv.keepT H.fr h5).bys hl) rfl ?_)
    rintro v2 w2 ⟨hB, hf2, hbk⟩
    replace H := H.ext hf2
    have hF2 := H.fr
    have a7 := a6.keep H.fr (fun b hb hm => hfn b hb (by simpa using hm))
    replace H := H.anew (S' := [b3, g.nb]) (G' := [⟨_, _, true⟩, ⟨_, _, true⟩]) (by repeat constructor) (by simp)
    have t3 := H.pick .head
    have tn := H.pick (.tail .head)
    have h52 : ∀ b ∈ g.fb.toList ++ [b3, g.nb], ∀ cs, w2.heap[b]? ≠ some (row cs 5) := by
      intro b hb
      simp at hb
      rcases hb with hb | rfl | rfl
      · rw [hb] at a7
        obtain ⟨cs, hc⟩ := a7.ty
        exact not5 hc (by decide)
      · exact not5 t3 (by decide)
      · exact not5 tn (by decide)
    obtain ⟨va2, vc2, rfl⟩ := hB.slice
    refine Ops.pure H (X.fieldAddr rfl rfl rfl rfl rfl rfl) rfl rfl rfl ?_
    (refine Ops.eff rfl (Y.store1 rfl rfl rfl rfl rfl rfl H Upd.head (by repeat (first | exact SetC.zero | apply SetC.succ)) ?_); intro w H0; clear H; have H := H0; clear H0)
    (refine Ops.nil (hK _ _ ?_); clear hK K)
    (refine Run.draw H [10] [0, 1, 2, 3, 4, 5, 6, 7, 8, 9, 10] ?_; clear H; intro K hK w H)
    refine Draw.take0 rfl (X.move rfl) rfl rfl rfl (by decide +kernel) ?_
    refine Draw.take0 rfl (X.move rfl) rfl rfl rfl (by decide +kernel) ?_
    refine Draw.take0 rfl (X.nilCheck rfl) rfl rfl rfl (by decide +kernel) ?_
    refine Draw.take0 rfl (X.fieldAddr rfl rfl rfl rfl rfl rfl) rfl rfl rfl (by decide +kernel) ?_
    refine Draw.take rfl (X.load1 rfl rfl rfl rfl (.tail .head) rfl) rfl rfl rfl (by decide +kernel) ?_
    refine Draw.take rfl (X.loadN rfl rfl rfl Pick.head (Cs.take rfl)) rfl rfl rfl (by decide +kernel) ?_
    (refine Draw.eff rfl rfl (by decide +kernel) (Y.buildSliceO rfl rfl rfl rfl rfl rfl rfl rfl H ?_); intro b20 w H0 hb20; clear H; have H := H0; clear H0; refine ⟨fun e he => H.at_ e (by simp only [List.mem_cons, List.not_mem_nil, or_false] at he ⊢; grind), ?_⟩)
    replace a7 := a7.keep H.fr (fun b hb hm => by
      have := hfn b hb
      have := a6.lt hb
      simp at hm
      omega)
    have hsz1 := H.fr.size
    have hlt7 : ∀ b, g.fb = some b → b < z.heap.size := fun b hb => a6.lt hb
    refine Draw.eff rfl rfl (by decide +kernel) (Y.push (sz := 6) (news := pkC (p, .slice va2 p.b.length vc2)) a7 rfl rfl rfl rfl rfl rfl H (fun b hb e he => ?_) (by omega) rfl (Src.row (m := 6) H .head (Cs.take rfl)) rfl rfl (by dsimp only; omega) (by omega) rfl ?_)
    · have := hlt7 b hb
      have := hfn b hb
      have := hF2.size
      simp at he
      rcases he with rfl | rfl | rfl <;> dsimp only <;> omega
    intro fb' foff fcap fcs w H hc1 hc2 hc3 hc4 hob
    refine ⟨fun e he => H.at_ e (by simp only [List.mem_cons, List.not_mem_nil, or_false] at he ⊢; grind), ?_⟩
    refine Draw.take0 rfl (X.nilCheck rfl) rfl rfl rfl (by decide +kernel) ?_
    refine Draw.take0 rfl (X.fieldAddr rfl rfl rfl rfl rfl rfl) rfl rfl rfl (by decide +kernel) ?_
    (refine Draw.last rfl rfl (by decide +kernel) (Y.store1 rfl rfl rfl rfl rfl rfl H (.tail (.tail (.tail .head))) (by repeat (first | exact SetC.zero | apply SetC.succ)) ?_); intro w H0; clear H; have H := H0; clear H0)
    (refine Draw2.done (by decide +kernel) (hK _ _ ?_); clear hK K)
    (first | refine Fn.ret1 HF rfl rfl ?_ | refine Fn.ret2 HF rfl rfl rfl ?_ | refine Fn.ret3 HF rfl rfl rfl rfl ?_ | refine Fn.ret0 HF rfl ?_ | refine Fn.fin0 HF rfl ?_ | refine Fn.retG (E := env) HF rfl H (by first | exact RVs.cellN rfl rfl rfl (by first | exact .head | exact .tail .head | exact .tail (.tail .head) | exact .tail (.tail (.tail .head)) | exact .tail (.tail (.tail (.tail .head))) | exact .tail (.tail (.tail (.tail (.tail .head)))) | exact .tail (.tail (.tail (.tail (.tail (.tail .head)))))) (by first | assumption | exact Cs.take rfl) RVs.nil | exact RVs.cellN rfl rfl rfl (by first | exact .head | exact .tail .head | exact .tail (.tail .head) | exact .tail (.tail (.tail .head)) | exact .tail (.tail (.tail (.tail .head))) | exact .tail (.tail (.tail (.tail (.tail .head)))) | exact .tail (.tail (.tail (.tail (.tail (.tail .head)))))) (by first | assumption | exact Cs.take rfl) (RVs.tmp rfl RVs.nil) | exact RVs.cellN rfl rfl rfl (by first | exact .head | exact .tail .head | exact .tail (.tail .head) | exact .tail (.tail (.tail .head)) | exact .tail (.tail (.tail (.tail .head))) | exact .tail (.tail (.tail (.tail (.tail .head)))) | exact .tail (.tail (.tail (.tail (.tail (.tail .head)))))) (by first | assumption | exact Cs.take rfl) (RVs.tmp rfl (RVs.tmp rfl RVs.nil))) rfl ?_)
    have hnew : ∀ b, blkV (.slice va2 p.b.length vc2) = some b → z.heap.size ≤ b := fun b hb => by have := hbk b hb; have := hF0.size; omega
    have hT : Fr z w (g.fb.toList ++ [g.nb]) := hF2.trans H.fr (by simp) (fun x hx hl => by simp at hx ⊢; rcases hx with h | rfl | h <;> first | omega | exact .inl h | exact .inr h)
    refine ⟨_, h.setFly (fv' := .slice (some ⟨fb', foff, none⟩) (g.fly.length + 1) fcap) (ob' := some fb') (ps' := g.fly ++ [(p, .slice va2 p.b.length vc2)]) hT (fun b hb => ?_) ⟨_, _, H.pick (by first | exact .head | exact .tail .head | exact .tail (.tail .head) | exact .tail (.tail (.tail .head)) | exact .tail (.tail (.tail (.tail .head))) | exact .tail (.tail (.tail (.tail (.tail .head)))) | exact .tail (.tail (.tail (.tail (.tail (.tail .head)))))), a2, a3, a4, a5⟩ ?_ ?_ ?_, ?_, rfl, rfl, ?_, hT⟩
    · simp at hb
      rcases hb with hb | hb
      · exact .inr hb
      · exact .inl hb
    · exact ⟨foff, fcap, fcs, by simp, by simpa using hc1, hc2, H.pick .head, hc3, hc4.cast rfl (by simp) (by simp)⟩
    · intro q hq
      simp at hq
      rcases hq with hq | rfl
      · exact .inl hq
      · exact .inr ⟨hB.keepT H.fr h52, fun b hb => .inr (hnew b hb)⟩
    · intro b hb
      cases hb
      have := hF2.size
      rcases hob with e | e
      · exact .inl e
      · exact .inr (by omega)
    · have hlt : g.fly.length < 4096 := by omega
      unfold Ns.flies
      rw [abs_fly, List.length_map, if_pos hlt]
      unfold PG.abs
      simp
    · simp
      omega
  · (first | refine Fn.ret1 HF rfl rfl ?_ | refine Fn.ret2 HF rfl rfl rfl ?_ | refine Fn.ret3 HF rfl rfl rfl rfl ?_ | refine Fn.ret0 HF rfl ?_ | refine Fn.fin0 HF rfl ?_ | refine Fn.retG (E := env) HF rfl H (by first | exact RVs.cellN rfl rfl rfl (by first | exact .head | exact .tail .head | exact .tail (.tail .head) | exact .tail (.tail (.tail .head)) | exact .tail (.tail (.tail (.tail .head))) | exact .tail (.tail (.tail (.tail (.tail .head)))) | exact .tail (.tail (.tail (.tail (.tail (.tail .head)))))) (by first | assumption | exact Cs.take rfl) RVs.nil | exact RVs.cellN rfl rfl rfl (by first | exact .head | exact .tail .head | exact .tail (.tail .head) | exact .tail (.tail (.tail .head)) | exact .tail (.tail (.tail (.tail .head))) | exact .tail (.tail (.tail (.tail (.tail .head)))) | exact .tail (.tail (.tail (.tail (.tail (.tail .head)))))) (by first | assumption | exact Cs.take rfl) (RVs.tmp rfl RVs.nil) | exact RVs.cellN rfl rfl rfl (by first | exact .head | exact .tail .head | exact .tail (.tail .head) | exact .tail (.tail (.tail .head)) | exact .tail (.tail (.tail (.tail .head))) | exact .tail (.tail (.tail (.tail (.tail .head)))) | exact .tail (.tail (.tail (.tail (.tail (.tail .head)))))) (by first | assumption | exact Cs.take rfl) (RVs.tmp rfl (RVs.tmp rfl RVs.nil))) rfl ?_)
    exact ⟨g, .rfl' h (H.fr.drop1 (by rw [a1]; exact H.pick (by first | exact .head | exact .tail .head | exact .tail (.tail .head) | exact .tail (.tail (.tail .head)) | exact .tail (.tail (.tail (.tail .head))) | exact .tail (.tail (.tail (.tail (.tail .head)))) | exact .tail (.tail (.tail (.tail (.tail (.tail .head)))))))), by unfold Ns.flies; rw [abs_fly, List.length_map, if_neg (by omega)], rfl, rfl, hfl, H.fr.mono (by simp)⟩
theorem flies_at (z : World) (g : PG) (p : Pk) (v : Value) {nb : Nat} (hnb : g.nb = nb) (h : PN z g) (hv : Bts z v p.b) (hl : p.b.length ≤ 140737488355327) (hfl : g.fly.length ≤ 4096) : Fn env.P 46 [.pointer (some ⟨nb, 0, none⟩), .agg (pkC (p, v)).toArray] z fun _ w' =>
    ∃ g', PStep z g w' g' ∧ g'.abs = g.abs.flies p ∧ g'.way = g.way ∧ g'.box = g.box ∧ g'.fly.length ≤ 4096 ∧ Fr z w' (g.fb.toList ++ [g.nb]) := by
  subst hnb
  exact flies_any z g p v h hv hl hfl
end Go.Proofs.Ytpmihcefjdeonaa
