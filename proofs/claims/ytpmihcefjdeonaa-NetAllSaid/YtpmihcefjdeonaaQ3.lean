/- Walks of layer 6: the document's node, Is, fly. -/
import Derived.Test.YtpmihcefjdeonaaQ2
namespace Go.Proofs.Ytpmihcefjdeonaa
open Go
set_option maxRecDepth 20000
set_option maxHeartbeats 2000000
attribute [local irreducible] Run Ops Fn Draw Draw2 PureOp StepZ

theorem node_any (z : World) (g : RG) (i : Int) {rb : Nat} (hrb : g.rb = rb) (h : RN z g) : Fn env.P 56 [.pointer (some ⟨rb, 0, none⟩), .int .i64 i] z fun v w' => v = .bool (g.abs.isN i) ∧ w' = z := by
  subst hrb
  obtain ⟨tv, yv, xv, av, a1, a2, _⟩ := h.net
  obtain ⟨ta, tc, rfl, _⟩ := a2.slice
  have H := (Holds.start z []).add false a1 (by simp) (by simp)
  have HF := Try.func56; refine Fn.enter Try.func56 Try.ntmps56 rfl rfl rfl ?_
  refine Run.seq ?_
  (refine Run.region ?_; intro K hK)
  refine Ops.pure H (X.assign rfl) rfl rfl rfl ?_
  (refine Ops.nil (hK _ _ ?_); clear hK K)
  refine Run.seq ?_
  (refine Run.region ?_; intro K hK)
  refine Ops.pure H (X.move rfl) rfl rfl rfl ?_
  refine Ops.pure H (X.cmp rfl rfl rfl) rfl rfl rfl ?_
  refine Ops.pure H (X.move rfl) rfl rfl rfl ?_
  refine Ops.split_dec rfl rfl (fun h8 => ?x0) (fun h8 => ?y0)
  case' y0 =>
    refine Ops.pass rfl rfl rfl ?_
    refine Ops.pass rfl rfl rfl ?_
    refine Ops.pass rfl rfl rfl ?_
    refine Ops.pass rfl rfl rfl ?_
    refine Ops.pass rfl rfl rfl ?_
    refine Ops.pass rfl rfl rfl ?_
    refine Ops.pass rfl rfl rfl ?_
    refine Ops.pure H (X.pick_f rfl rfl) rfl rfl rfl ?_
    refine Ops.pure H (X.assign rfl) rfl rfl rfl ?_
    (refine Ops.nil (hK _ _ ?_); clear hK K)
  case' x0 =>
    refine Ops.pure H (X.move rfl) rfl rfl rfl ?_
    refine Ops.pure H (X.move rfl) rfl rfl rfl ?_
    refine Ops.pure H (X.nilCheck rfl) rfl rfl rfl ?_
    refine Ops.pure H (X.fieldAddr rfl rfl rfl rfl rfl rfl) rfl rfl rfl ?_
    refine Ops.pure H (X.load1 rfl rfl rfl rfl Pick.head rfl) rfl rfl rfl ?_
    refine Ops.pure H (X.len_slice rfl rfl rfl) rfl rfl rfl ?_
    refine Ops.pure H (X.cmp rfl rfl rfl) rfl rfl rfl ?_
    refine Ops.pure H (X.pick_t rfl rfl) rfl rfl rfl ?_
    refine Ops.pure H (X.assign rfl) rfl rfl rfl ?_
    (refine Ops.nil (hK _ _ ?_); clear hK K)
  · (first | refine Fn.ret1 HF rfl rfl ?_ | refine Fn.ret2 HF rfl rfl rfl ?_ | refine Fn.ret3 HF rfl rfl rfl rfl ?_ | refine Fn.ret0 HF rfl ?_ | refine Fn.fin0 HF rfl ?_ | refine Fn.retG (E := env) HF rfl H (by first | exact RVs.cellN rfl rfl rfl (by first | exact .head | exact .tail .head | exact .tail (.tail .head) | exact .tail (.tail (.tail .head)) | exact .tail (.tail (.tail (.tail .head))) | exact .tail (.tail (.tail (.tail (.tail .head)))) | exact .tail (.tail (.tail (.tail (.tail (.tail .head)))))) (by first | assumption | exact Cs.take rfl) RVs.nil | exact RVs.cellN rfl rfl rfl (by first | exact .head | exact .tail .head | exact .tail (.tail .head) | exact .tail (.tail (.tail .head)) | exact .tail (.tail (.tail (.tail .head))) | exact .tail (.tail (.tail (.tail (.tail .head)))) | exact .tail (.tail (.tail (.tail (.tail (.tail .head)))))) (by first | assumption | exact Cs.take rfl) (RVs.tmp rfl RVs.nil) | exact RVs.cellN rfl rfl rfl (by first | exact .head | exact .tail .head | exact .tail (.tail .head) | exact .tail (.tail (.tail .head)) | exact .tail (.tail (.tail (.tail .head))) | exact .tail (.tail (.tail (.tail (.tail .head)))) | exact .tail (.tail (.tail (.tail (.tail (.tail .head)))))) (by first | assumption | exact Cs.take rfl) (RVs.tmp rfl (RVs.tmp rfl RVs.nil))) rfl ?_)
    refine ⟨?_, rfl⟩
    have h0 : 0 ≤ i := by omega
    simp [Ns.isN, rabs_n, h0]
  · (first | refine Fn.ret1 HF rfl rfl ?_ | refine Fn.ret2 HF rfl rfl rfl ?_ | refine Fn.ret3 HF rfl rfl rfl rfl ?_ | refine Fn.ret0 HF rfl ?_ | refine Fn.fin0 HF rfl ?_ | refine Fn.retG (E := env) HF rfl H (by first | exact RVs.cellN rfl rfl rfl (by first | exact .head | exact .tail .head | exact .tail (.tail .head) | exact .tail (.tail (.tail .head)) | exact .tail (.tail (.tail (.tail .head))) | exact .tail (.tail (.tail (.tail (.tail .head)))) | exact .tail (.tail (.tail (.tail (.tail (.tail .head)))))) (by first | assumption | exact Cs.take rfl) RVs.nil | exact RVs.cellN rfl rfl rfl (by first | exact .head | exact .tail .head | exact .tail (.tail .head) | exact .tail (.tail (.tail .head)) | exact .tail (.tail (.tail (.tail .head))) | exact .tail (.tail (.tail (.tail (.tail .head)))) | exact .tail (.tail (.tail (.tail (.tail (.tail .head)))))) (by first | assumption | exact Cs.take rfl) (RVs.tmp rfl RVs.nil) | exact RVs.cellN rfl rfl rfl (by first | exact .head | exact .tail .head | exact .tail (.tail .head) | exact .tail (.tail (.tail .head)) | exact .tail (.tail (.tail (.tail .head))) | exact .tail (.tail (.tail (.tail (.tail .head)))) | exact .tail (.tail (.tail (.tail (.tail (.tail .head)))))) (by first | assumption | exact Cs.take rfl) (RVs.tmp rfl (RVs.tmp rfl RVs.nil))) rfl ?_)
    refine ⟨?_, rfl⟩
    have h0 : ¬ 0 ≤ i := by omega
    simp [Ns.isN, h0]
theorem rIs_any (z : World) (g : RG) (i : Int) {rb : Nat} (hrb : g.rb = rb) (h : RN z g) : Fn env.P 40 [.pointer (some ⟨rb, 0, none⟩), .int .i64 i] z fun v w' => v = .bool (g.abs.there i) ∧ w' = z := by
  subst hrb
  obtain ⟨tv, yv, xv, av, a1, a2, _⟩ := h.net
  obtain ⟨off, cap, cs, rfl, t2, t3, t4, t5, t6⟩ := a2
  have H := ((Holds.start z []).add false t4 (by simp) (by simp)).add false a1 (by simpa using ne_of_ty a1 t4 (by decide)) (by simp)
  have HF := Try.func40; refine Fn.enter Try.func40 Try.ntmps40 rfl rfl rfl ?_
  refine Run.seq ?_
  (refine Run.region ?_; intro K hK)
  refine Ops.pure H (X.assign rfl) rfl rfl rfl ?_
  (refine Ops.nil (hK _ _ ?_); clear hK K)
  refine Run.seq ?_
  (refine Run.region ?_; intro K hK)
  refine Ops.pure H (X.move rfl) rfl rfl rfl ?_
  refine Ops.pure H (X.move rfl) rfl rfl rfl ?_
  refine Ops.eff rfl (Y.call rfl rfl (by first | assumption | decide +kernel) rfl (node_any _ g i rfl h) rfl ?_)
  rintro v w1 ⟨rfl, rfl⟩
  cases hi : g.abs.isN i with
  | false =>
    refine Ops.pure H (X.move rfl) rfl rfl rfl ?_
    refine Ops.pass rfl rfl rfl ?_
    refine Ops.pass rfl rfl rfl ?_
    refine Ops.pass rfl rfl rfl ?_
    refine Ops.pass rfl rfl rfl ?_
    refine Ops.pass rfl rfl rfl ?_
    refine Ops.pass rfl rfl rfl ?_
    refine Ops.pass rfl rfl rfl ?_
    refine Ops.pure H (X.pick_f rfl rfl) rfl rfl rfl ?_
    refine Ops.pure H (X.assign rfl) rfl rfl rfl ?_
    (refine Ops.nil (hK _ _ ?_); clear hK K)
    (first | refine Fn.ret1 HF rfl rfl ?_ | refine Fn.ret2 HF rfl rfl rfl ?_ | refine Fn.ret3 HF rfl rfl rfl rfl ?_ | refine Fn.ret0 HF rfl ?_ | refine Fn.fin0 HF rfl ?_ | refine Fn.retG (E := env) HF rfl H (by first | exact RVs.cellN rfl rfl rfl (by first | exact .head | exact .tail .head | exact .tail (.tail .head) | exact .tail (.tail (.tail .head)) | exact .tail (.tail (.tail (.tail .head))) | exact .tail (.tail (.tail (.tail (.tail .head)))) | exact .tail (.tail (.tail (.tail (.tail (.tail .head)))))) (by first | assumption | exact Cs.take rfl) RVs.nil | exact RVs.cellN rfl rfl rfl (by first | exact .head | exact .tail .head | exact .tail (.tail .head) | exact .tail (.tail (.tail .head)) | exact .tail (.tail (.tail (.tail .head))) | exact .tail (.tail (.tail (.tail (.tail .head)))) | exact .tail (.tail (.tail (.tail (.tail (.tail .head)))))) (by first | assumption | exact Cs.take rfl) (RVs.tmp rfl RVs.nil) | exact RVs.cellN rfl rfl rfl (by first | exact .head | exact .tail .head | exact .tail (.tail .head) | exact .tail (.tail (.tail .head)) | exact .tail (.tail (.tail (.tail .head))) | exact .tail (.tail (.tail (.tail (.tail .head)))) | exact .tail (.tail (.tail (.tail (.tail (.tail .head)))))) (by first | assumption | exact Cs.take rfl) (RVs.tmp rfl (RVs.tmp rfl RVs.nil))) rfl ?_)
    exact ⟨by simp [Ns.there, hi], rfl⟩
  | true =>
    obtain ⟨k, rfl, hk⟩ := isN_iff.1 hi
    replace hk : k < g.n := hk
    have hc : cs[off + k * 1]? = some (.bool (g.up k)) := by
      have := Cs.flat (sz := 1) (f := fun i => [.bool (g.up i)]) (fun _ => rfl) t6 hk
      exact this.get 0 _ rfl
    refine Ops.pure H (X.move rfl) rfl rfl rfl ?_
    refine Ops.pure H (X.move rfl) rfl rfl rfl ?_
    refine Ops.pure H (X.nilCheck rfl) rfl rfl rfl ?_
    refine Ops.pure H (X.fieldAddr rfl rfl rfl rfl rfl rfl) rfl rfl rfl ?_
    refine Ops.pure H (X.load1 rfl rfl rfl rfl Pick.head rfl) rfl rfl rfl ?_
    refine Ops.pure H (X.move rfl) rfl rfl rfl ?_
    refine Ops.pure H (X.indexAddr rfl rfl (by omega) rfl rfl rfl rfl) rfl rfl rfl ?_
    refine Ops.pure H (X.load1 rfl rfl rfl rfl (.tail .head) (by assumption)) rfl rfl rfl ?_
    refine Ops.pure H (X.pick_t rfl rfl) rfl rfl rfl ?_
    refine Ops.pure H (X.assign rfl) rfl rfl rfl ?_
    (refine Ops.nil (hK _ _ ?_); clear hK K)
    (first | refine Fn.ret1 HF rfl rfl ?_ | refine Fn.ret2 HF rfl rfl rfl ?_ | refine Fn.ret3 HF rfl rfl rfl rfl ?_ | refine Fn.ret0 HF rfl ?_ | refine Fn.fin0 HF rfl ?_ | refine Fn.retG (E := env) HF rfl H (by first | exact RVs.cellN rfl rfl rfl (by first | exact .head | exact .tail .head | exact .tail (.tail .head) | exact .tail (.tail (.tail .head)) | exact .tail (.tail (.tail (.tail .head))) | exact .tail (.tail (.tail (.tail (.tail .head)))) | exact .tail (.tail (.tail (.tail (.tail (.tail .head)))))) (by first | assumption | exact Cs.take rfl) RVs.nil | exact RVs.cellN rfl rfl rfl (by first | exact .head | exact .tail .head | exact .tail (.tail .head) | exact .tail (.tail (.tail .head)) | exact .tail (.tail (.tail (.tail .head))) | exact .tail (.tail (.tail (.tail (.tail .head)))) | exact .tail (.tail (.tail (.tail (.tail (.tail .head)))))) (by first | assumption | exact Cs.take rfl) (RVs.tmp rfl RVs.nil) | exact RVs.cellN rfl rfl rfl (by first | exact .head | exact .tail .head | exact .tail (.tail .head) | exact .tail (.tail (.tail .head)) | exact .tail (.tail (.tail (.tail .head))) | exact .tail (.tail (.tail (.tail (.tail .head)))) | exact .tail (.tail (.tail (.tail (.tail (.tail .head)))))) (by first | assumption | exact Cs.take rfl) (RVs.tmp rfl (RVs.tmp rfl RVs.nil))) rfl ?_)
    exact ⟨by simp [Ns.there, hi]; rfl, rfl⟩
theorem rfly_any (z : World) (g : RG) (p : Pk) (v : Value) {rb : Nat} (hrb : g.rb = rb) (h : RN z g) (hv : Bts z v p.b) (hvb : ∀ b, blkV v = some b → RB g b ∨ z.heap.size ≤ b) (hfl : g.air.length ≤ 4096) : Fn env.P 59 [.pointer (some ⟨rb, 0, none⟩), .agg (pkC (p, v)).toArray] z fun _ w' =>
    ∃ g', RStep z g w' g' ∧ g'.abs = g.abs.flies p ∧ g'.way = g.way ∧ g'.box = g.box ∧ g'.air.length ≤ 4096 ∧ Fr z w' [g.rb] ∧ g'.up = g.up := by
  subst hrb
  obtain ⟨va, vc, rfl⟩ := hv.slice
  obtain ⟨tv, yv, xv, av, a1, a2, a3, a4, a5⟩ := h.net
  obtain ⟨aa, ac, rfl, _⟩ := a5.slice
  have hone : ∀ v ∈ g.air.flatMap pkC, v.oneCell' = true := pk_one h.airb
  have hrl := lt_of_at a1
  by_cases h0 : g.air.length < 4096
  · have H := (Holds.start z []).add false a1 (by simp) (by simp)
    unfold pkC
    have HF := Try.func59; refine Fn.enter Try.func59 Try.ntmps59 rfl rfl rfl ?_
    refine Run.seq ?_
    (refine Run.region ?_; intro K hK)
    (refine Ops.eff rfl (Y.box rfl rfl rfl H ?_); intro b3 w H0 hb3; clear H; have H := H0; clear H0)
    (refine Ops.nil (hK _ _ ?_); clear hK K)
    refine Run.seq ?_
    (refine Run.region ?_; intro K hK)
    refine Ops.pure H (X.move rfl) rfl rfl rfl ?_
    refine Ops.pure H (X.nilCheck rfl) rfl rfl rfl ?_
    refine Ops.pure H (X.fieldAddr rfl rfl rfl rfl rfl rfl) rfl rfl rfl ?_
    refine Ops.pure H (X.load1 rfl rfl rfl rfl (.tail .head) rfl) rfl rfl rfl ?_
    refine Ops.pure H (X.len_slice rfl rfl rfl) rfl rfl rfl ?_
    refine Ops.pure H (X.cmp rfl rfl rfl) rfl rfl rfl ?_
    (refine Ops.nil (hK _ _ ?_); clear hK K)
    refine Run.cond_dec rfl (fun h9 => ?x1) (fun h9 => ?y1)
    case' y1 => exfalso; omega
    refine Run.meet (fun (_ : Nat × Nat × Nat × List Value) => [])
      (fun x w' => Fr z w' [g.rb] ∧ w'.heap[g.rb]? = some (row [tv, yv, xv, .slice (some ⟨x.1, x.2.1, none⟩) (g.air.length + 1) x.2.2.1] 69) ∧ w'.heap[x.1]? = some (row x.2.2.2 81) ∧ z.heap.size ≤ x.1 ∧ g.air.length + 1 ≤ x.2.2.1 ∧ x.2.2.1 ≤ 9223372036854775807 ∧ x.2.1 + x.2.2.1 * 6 ≤ x.2.2.2.length ∧ Cs x.2.2.2 x.2.1 ((g.air.length + 1) * 6) (g.air.flatMap pkC ++ pkC (p, .slice va p.b.length vc))) ?_ ?_
    · rintro ⟨fb', foff, fcap, fcs⟩ w2 ⟨hF, r2, f2, hfz, hc1, hc2, hc3, hc4⟩
      dsimp only at hF r2 f2 hfz hc1 hc2 hc3 hc4
      clear H
      have H := Holds.start w2 []
      skip
      (first | refine Fn.ret1 HF rfl rfl ?_ | refine Fn.ret2 HF rfl rfl rfl ?_ | refine Fn.ret3 HF rfl rfl rfl rfl ?_ | refine Fn.ret0 HF rfl ?_ | refine Fn.fin0 HF rfl ?_ | refine Fn.retG (E := env) HF rfl H (by first | exact RVs.cellN rfl rfl rfl (by first | exact .head | exact .tail .head | exact .tail (.tail .head) | exact .tail (.tail (.tail .head)) | exact .tail (.tail (.tail (.tail .head))) | exact .tail (.tail (.tail (.tail (.tail .head)))) | exact .tail (.tail (.tail (.tail (.tail (.tail .head)))))) (by first | assumption | exact Cs.take rfl) RVs.nil | exact RVs.cellN rfl rfl rfl (by first | exact .head | exact .tail .head | exact .tail (.tail .head) | exact .tail (.tail (.tail .head)) | exact .tail (.tail (.tail (.tail .head))) | exact .tail (.tail (.tail (.tail (.tail .head)))) | exact .tail (.tail (.tail (.tail (.tail (.tail .head)))))) (by first | assumption | exact Cs.take rfl) (RVs.tmp rfl RVs.nil) | exact RVs.cellN rfl rfl rfl (by first | exact .head | exact .tail .head | exact .tail (.tail .head) | exact .tail (.tail (.tail .head)) | exact .tail (.tail (.tail (.tail .head))) | exact .tail (.tail (.tail (.tail (.tail .head)))) | exact .tail (.tail (.tail (.tail (.tail (.tail .head)))))) (by first | assumption | exact Cs.take rfl) (RVs.tmp rfl (RVs.tmp rfl RVs.nil))) rfl ?_)
      have st := h.setAir (ps' := g.air ++ [(p, .slice va p.b.length vc)]) (ob' := some fb') hF ⟨_, a1⟩ r2 ⟨foff, fcap, fcs, by simp, by simpa using hc1, hc2, f2, hc3, hc4.cast rfl (by simp) (by simp)⟩ (fun q hq => by
        simp at hq
        rcases hq with hq | rfl
        · exact ⟨(h.airb q hq).keepT hF (fun b hb => by simp at hb; subst hb; exact not5 a1 (by decide)), fun b hb => .inl (.inl ⟨q, hq, hb⟩)⟩
        · exact ⟨hv.keepT hF (fun b hb => by simp at hb; subst hb; exact not5 a1 (by decide)), hvb⟩) (fun b hb => by cases hb; exact .inr hfz)
      refine ⟨_, st, ?_, rfl, rfl, by simp; omega, hF, rfl⟩
      unfold Ns.flies
      rw [rabs_fly, List.length_map, if_pos h0]
      unfold RG.abs
      simp
    · intro kk go
      have p30 := H.pick .head
      have hb3l := lt_of_at p30
      refine Run.draw H [12] [0, 2, 3, 4, 5, 7, 1, 6, 8, 9, 10, 11, 12] ?_
      clear H p30 hb3l
      intro K hK w H
      refine Draw.take0 rfl (X.move rfl) rfl rfl rfl (by decide +kernel) ?_
      refine Draw.take0 rfl (X.move rfl) rfl rfl rfl (by decide +kernel) ?_
      refine Draw.take0 rfl (X.nilCheck rfl) rfl rfl rfl (by decide +kernel) ?_
      refine Draw.take0 rfl (X.fieldAddr rfl rfl rfl rfl rfl rfl) rfl rfl rfl (by decide +kernel) ?_
      refine Draw.take rfl (X.load1 rfl rfl rfl rfl (.tail .head) rfl) rfl rfl rfl (by decide +kernel) ?_
      refine Draw.take rfl (X.loadN rfl rfl rfl Pick.head (Cs.take rfl)) rfl rfl rfl (by decide +kernel) ?_
      have hF := H.fr
      have p3 := H.pick .head
      have r0 := H.pick (.tail .head)
      have hb3l := lt_of_at p3
      have hsz0 := hF.size
    -- ORDERS
      refine Draw.eff2 (i := 1) (j := 8) [6, 8, 9, 10, 11, 12] [1, 6, 9, 10, 11, 12] rfl rfl rfl rfl (by decide +kernel) (Y.buildSliceO rfl rfl rfl rfl rfl rfl rfl rfl (Holds.start w ([] : List Nat)) ?_) (Y.buildSliceO rfl rfl rfl rfl rfl rfl rfl rfl (Holds.start w ([] : List Nat)) ?_)
      · skip
        intro bA w1 H1 zA
        have hf1 := H1.fr
        have hA := H1.pick .head
        have hA0 := Nat.le_trans hF.size zA
        have hsz1 := hf1.size
        have hAl := lt_of_at hA
        have hAz := zA
        replace hF := hF.then hf1
        replace p3 := hf1.get p3 (by simp)
        replace r0 := hf1.get r0 (by simp)
        refine ⟨fun e he => by simp only [List.mem_cons, List.not_mem_nil, or_false] at he; rcases he with rfl | rfl; exact p3; exact r0, ?_⟩
        clear hf1 H1
        refine Draw.eff2 (i := 6) (j := 8) [8, 9, 10, 11, 12] [6, 9, 10, 11, 12] rfl rfl rfl rfl (by decide +kernel) (Y.copyOf2 (sz := 6) (news := g.air.flatMap pkC) rfl rfl rfl rfl rfl rfl (((Holds.start z []).ext hF).add true hA (by simp) (fun _ => .inr hA0)) .head hA0 (pk_len _) ((a5.ext hF).src) rfl (by dsimp only; omega) (by omega) rfl ?_) (Y.buildSliceO rfl rfl rfl rfl rfl rfl rfl rfl (Holds.start w1 ([] : List Nat)) ?_)
        · skip
          intro v16 c16 w2 H1 hf1 L16 z16 e16
          have hsz2 := hf1.size
          have hCl := L16.lt rfl
          replace hF := hF.then hf1
          replace p3 := hf1.get p3 (by simp)
          replace r0 := hf1.get r0 (by simp)
          refine ⟨fun e he => by simp only [List.mem_cons, List.not_mem_nil, or_false] at he; rcases he with rfl | rfl; exact p3; exact r0, ?_⟩
          clear hf1 H1
          refine Draw.eff (i := 8) rfl rfl (by decide +kernel) (Y.buildSliceO rfl rfl rfl rfl rfl rfl rfl rfl (Holds.start w2 ([] : List Nat)) ?_)
          intro bB w3 H1 zB
          have hf1 := H1.fr
          have hB := H1.pick .head
          have hsz3 := hf1.size
          have hBl := lt_of_at hB
          replace hF := hF.then hf1
          replace p3 := hf1.get p3 (by simp)
          replace r0 := hf1.get r0 (by simp)
          replace L16 := L16.ext hf1
          refine ⟨fun e he => by simp only [List.mem_cons, List.not_mem_nil, or_false] at he; rcases he with rfl | rfl; exact p3; exact r0, ?_⟩
          clear hf1 H1
          obtain ⟨a16, c16c, rfl, _⟩ := L16.slice
          have hn1 : c16 ≠ g.rb := by obtain ⟨cs, hcs⟩ := L16.ty; exact ne_of_ty hcs r0 (by decide)
          have zB0 : b3 < bB := by omega
          replace H := (Holds.start w3 [g.rb]).add true r0 (by simp) (by simp)
          replace H := H.add false hB (by simpa using ne_of_ty hB r0 (by decide)) (by simp)
          refine Draw.eff (i := 9) rfl rfl (by decide +kernel) (Y.push (sz := 6) (news := pkC (p, .slice va p.b.length vc)) L16 rfl rfl rfl rfl rfl rfl H (fun b hb e he => ?_) (by omega) rfl (Src.row (m := 6) H .head (Cs.take rfl)) rfl rfl (by dsimp only; omega) (by omega) rfl ?_)
          · cases hb
            simp at he
            rcases he with rfl | rfl <;> dsimp only <;> omega
          intro fb' foff fcap fcs w4 H hc1 hc2 hc3 hc4 hob
          have hF9 := H.fr
          have r9 := H.pick (b := g.rb) (by first | exact .head | exact .tail .head | exact .tail (.tail .head) | exact .tail (.tail (.tail .head)) | exact .tail (.tail (.tail (.tail .head))) | exact .tail (.tail (.tail (.tail (.tail .head)))) | exact .tail (.tail (.tail (.tail (.tail (.tail .head))))))
          have hf9 := H.pick .head
          have p9 := hF9.get p3 (by simp; omega)
          refine ⟨fun e he => by simp only [List.mem_cons, List.not_mem_nil, or_false] at he; rcases he with rfl | rfl; exact p9; exact r9, ?_⟩
          refine Draw.take0 rfl (X.nilCheck rfl) rfl rfl rfl (by decide +kernel) ?_
          refine Draw.take0 rfl (X.fieldAddr rfl rfl rfl rfl rfl rfl) rfl rfl rfl (by decide +kernel) ?_
          (refine Draw.last rfl rfl (by decide +kernel) (Y.store1 rfl rfl rfl rfl rfl rfl H (.tail (.tail .head)) (by repeat (first | exact SetC.zero | apply SetC.succ)) ?_); intro w H0; clear H; have H := H0; clear H0)
          (refine Draw2.done (by decide +kernel) (hK _ _ ?_); clear hK K)
          refine go (fb', foff, fcap, fcs) _ _ ⟨hF.trans H.fr (by simp) (fun x hx hl => by simp at hx ⊢; omega), H.pick (b := g.rb) (by first | exact .head | exact .tail .head | exact .tail (.tail .head) | exact .tail (.tail (.tail .head)) | exact .tail (.tail (.tail (.tail .head))) | exact .tail (.tail (.tail (.tail (.tail .head)))) | exact .tail (.tail (.tail (.tail (.tail (.tail .head)))))), H.pick .head, ?_, hc1, hc2, hc3, hc4⟩ (by repeat (first | exact trivial | refine ⟨rfl, ?_⟩))
          rcases hob with e | e
          · cases e; omega
          · dsimp only; omega
        · skip
          intro bB w2 H1 zB
          have hf1 := H1.fr
          have hB := H1.pick .head
          have hsz2 := hf1.size
          have hBl := lt_of_at hB
          replace hF := hF.then hf1
          replace p3 := hf1.get p3 (by simp)
          replace r0 := hf1.get r0 (by simp)
          replace hA := hf1.get hA (by simp)
          refine ⟨fun e he => by simp only [List.mem_cons, List.not_mem_nil, or_false] at he; rcases he with rfl | rfl; exact p3; exact r0, ?_⟩
          clear hf1 H1
          refine Draw.eff (i := 6) rfl rfl (by decide +kernel) (Y.copyOf2 (sz := 6) (news := g.air.flatMap pkC) rfl rfl rfl rfl rfl rfl (((Holds.start z []).ext hF).add true hA (by simp) (fun _ => .inr hA0)) .head hA0 (pk_len _) ((a5.ext hF).src) rfl (by dsimp only; omega) (by omega) rfl ?_)
          intro v16 c16 w3 H1 hf1 L16 z16 e16
          have hsz3 := hf1.size
          have hCl := L16.lt rfl
          replace hF := hF.then hf1
          replace p3 := hf1.get p3 (by simp)
          replace r0 := hf1.get r0 (by simp)
          replace hB := hf1.get hB (by simp)
          refine ⟨fun e he => by simp only [List.mem_cons, List.not_mem_nil, or_false] at he; rcases he with rfl | rfl; exact p3; exact r0, ?_⟩
          clear hf1 H1
          obtain ⟨a16, c16c, rfl, _⟩ := L16.slice
          have hn1 : c16 ≠ g.rb := by obtain ⟨cs, hcs⟩ := L16.ty; exact ne_of_ty hcs r0 (by decide)
          have zB0 : b3 < bB := by omega
          replace H := (Holds.start w3 [g.rb]).add true r0 (by simp) (by simp)
          replace H := H.add false hB (by simpa using ne_of_ty hB r0 (by decide)) (by simp)
          refine Draw.eff (i := 9) rfl rfl (by decide +kernel) (Y.push (sz := 6) (news := pkC (p, .slice va p.b.length vc)) L16 rfl rfl rfl rfl rfl rfl H (fun b hb e he => ?_) (by omega) rfl (Src.row (m := 6) H .head (Cs.take rfl)) rfl rfl (by dsimp only; omega) (by omega) rfl ?_)
          · cases hb
            simp at he
            rcases he with rfl | rfl <;> dsimp only <;> omega
          intro fb' foff fcap fcs w4 H hc1 hc2 hc3 hc4 hob
          have hF9 := H.fr
          have r9 := H.pick (b := g.rb) (by first | exact .head | exact .tail .head | exact .tail (.tail .head) | exact .tail (.tail (.tail .head)) | exact .tail (.tail (.tail (.tail .head))) | exact .tail (.tail (.tail (.tail (.tail .head)))) | exact .tail (.tail (.tail (.tail (.tail (.tail .head))))))
          have hf9 := H.pick .head
          have p9 := hF9.get p3 (by simp; omega)
          refine ⟨fun e he => by simp only [List.mem_cons, List.not_mem_nil, or_false] at he; rcases he with rfl | rfl; exact p9; exact r9, ?_⟩
          refine Draw.take0 rfl (X.nilCheck rfl) rfl rfl rfl (by decide +kernel) ?_
          refine Draw.take0 rfl (X.fieldAddr rfl rfl rfl rfl rfl rfl) rfl rfl rfl (by decide +kernel) ?_
          (refine Draw.last rfl rfl (by decide +kernel) (Y.store1 rfl rfl rfl rfl rfl rfl H (.tail (.tail .head)) (by repeat (first | exact SetC.zero | apply SetC.succ)) ?_); intro w H0; clear H; have H := H0; clear H0)
          (refine Draw2.done (by decide +kernel) (hK _ _ ?_); clear hK K)
          refine go (fb', foff, fcap, fcs) _ _ ⟨hF.trans H.fr (by simp) (fun x hx hl => by simp at hx ⊢; omega), H.pick (b := g.rb) (by first | exact .head | exact .tail .head | exact .tail (.tail .head) | exact .tail (.tail (.tail .head)) | exact .tail (.tail (.tail (.tail .head))) | exact .tail (.tail (.tail (.tail (.tail .head)))) | exact .tail (.tail (.tail (.tail (.tail (.tail .head)))))), H.pick .head, ?_, hc1, hc2, hc3, hc4⟩ (by repeat (first | exact trivial | refine ⟨rfl, ?_⟩))
          rcases hob with e | e
          · cases e; omega
          · dsimp only; omega
      · skip
        intro bB w1 H1 zB
        have hf1 := H1.fr
        have hB := H1.pick .head
        have hsz1 := hf1.size
        have hBl := lt_of_at hB
        replace hF := hF.then hf1
        replace p3 := hf1.get p3 (by simp)
        replace r0 := hf1.get r0 (by simp)
        refine ⟨fun e he => by simp only [List.mem_cons, List.not_mem_nil, or_false] at he; rcases he with rfl | rfl; exact p3; exact r0, ?_⟩
        clear hf1 H1
        refine Draw.eff (i := 1) rfl rfl (by decide +kernel) (Y.buildSliceO rfl rfl rfl rfl rfl rfl rfl rfl (Holds.start w1 ([] : List Nat)) ?_)
        intro bA w2 H1 zA
        have hf1 := H1.fr
        have hA := H1.pick .head
        have hA0 := Nat.le_trans hF.size zA
        have hsz2 := hf1.size
        have hAl := lt_of_at hA
        have hAz := zA
        replace hF := hF.then hf1
        replace p3 := hf1.get p3 (by simp)
        replace r0 := hf1.get r0 (by simp)
        replace hB := hf1.get hB (by simp)
        refine ⟨fun e he => by simp only [List.mem_cons, List.not_mem_nil, or_false] at he; rcases he with rfl | rfl; exact p3; exact r0, ?_⟩
        clear hf1 H1
        refine Draw.eff (i := 6) rfl rfl (by decide +kernel) (Y.copyOf2 (sz := 6) (news := g.air.flatMap pkC) rfl rfl rfl rfl rfl rfl (((Holds.start z []).ext hF).add true hA (by simp) (fun _ => .inr hA0)) .head hA0 (pk_len _) ((a5.ext hF).src) rfl (by dsimp only; omega) (by omega) rfl ?_)
        intro v16 c16 w3 H1 hf1 L16 z16 e16
        have hsz3 := hf1.size
        have hCl := L16.lt rfl
        replace hF := hF.then hf1
        replace p3 := hf1.get p3 (by simp)
        replace r0 := hf1.get r0 (by simp)
        replace hB := hf1.get hB (by simp)
        refine ⟨fun e he => by simp only [List.mem_cons, List.not_mem_nil, or_false] at he; rcases he with rfl | rfl; exact p3; exact r0, ?_⟩
        clear hf1 H1
        obtain ⟨a16, c16c, rfl, _⟩ := L16.slice
        have hn1 : c16 ≠ g.rb := by obtain ⟨cs, hcs⟩ := L16.ty; exact ne_of_ty hcs r0 (by decide)
        have zB0 : b3 < bB := by omega
        replace H := (Holds.start w3 [g.rb]).add true r0 (by simp) (by simp)
        replace H := H.add false hB (by simpa using ne_of_ty hB r0 (by decide)) (by simp)
        refine Draw.eff (i := 9) rfl rfl (by decide +kernel) (Y.push (sz := 6) (news := pkC (p, .slice va p.b.length vc)) L16 rfl rfl rfl rfl rfl rfl H (fun b hb e he => ?_) (by omega) rfl (Src.row (m := 6) H .head (Cs.take rfl)) rfl rfl (by dsimp only; omega) (by omega) rfl ?_)
        · cases hb
          simp at he
          rcases he with rfl | rfl <;> dsimp only <;> omega
        intro fb' foff fcap fcs w4 H hc1 hc2 hc3 hc4 hob
        have hF9 := H.fr
        have r9 := H.pick (b := g.rb) (by first | exact .head | exact .tail .head | exact .tail (.tail .head) | exact .tail (.tail (.tail .head)) | exact .tail (.tail (.tail (.tail .head))) | exact .tail (.tail (.tail (.tail (.tail .head)))) | exact .tail (.tail (.tail (.tail (.tail (.tail .head))))))
        have hf9 := H.pick .head
        have p9 := hF9.get p3 (by simp; omega)
        refine ⟨fun e he => by simp only [List.mem_cons, List.not_mem_nil, or_false] at he; rcases he with rfl | rfl; exact p9; exact r9, ?_⟩
        refine Draw.take0 rfl (X.nilCheck rfl) rfl rfl rfl (by decide +kernel) ?_
        refine Draw.take0 rfl (X.fieldAddr rfl rfl rfl rfl rfl rfl) rfl rfl rfl (by decide +kernel) ?_
        (refine Draw.last rfl rfl (by decide +kernel) (Y.store1 rfl rfl rfl rfl rfl rfl H (.tail (.tail .head)) (by repeat (first | exact SetC.zero | apply SetC.succ)) ?_); intro w H0; clear H; have H := H0; clear H0)
        (refine Draw2.done (by decide +kernel) (hK _ _ ?_); clear hK K)
        refine go (fb', foff, fcap, fcs) _ _ ⟨hF.trans H.fr (by simp) (fun x hx hl => by simp at hx ⊢; omega), H.pick (b := g.rb) (by first | exact .head | exact .tail .head | exact .tail (.tail .head) | exact .tail (.tail (.tail .head)) | exact .tail (.tail (.tail (.tail .head))) | exact .tail (.tail (.tail (.tail (.tail .head)))) | exact .tail (.tail (.tail (.tail (.tail (.tail .head)))))), H.pick .head, ?_, hc1, hc2, hc3, hc4⟩ (by repeat (first | exact trivial | refine ⟨rfl, ?_⟩))
        rcases hob with e | e
        · cases e; omega
        · dsimp only; omega
    -- END
  · have H := (Holds.start z []).add false a1 (by simp) (by simp)
    unfold pkC
    have HF := Try.func59; refine Fn.enter Try.func59 Try.ntmps59 rfl rfl rfl ?_
    refine Run.seq ?_
    (refine Run.region ?_; intro K hK)
    (refine Ops.eff rfl (Y.box rfl rfl rfl H ?_); intro b3 w H0 hb3; clear H; have H := H0; clear H0)
    (refine Ops.nil (hK _ _ ?_); clear hK K)
    refine Run.seq ?_
    (refine Run.region ?_; intro K hK)
    refine Ops.pure H (X.move rfl) rfl rfl rfl ?_
    refine Ops.pure H (X.nilCheck rfl) rfl rfl rfl ?_
    refine Ops.pure H (X.fieldAddr rfl rfl rfl rfl rfl rfl) rfl rfl rfl ?_
    refine Ops.pure H (X.load1 rfl rfl rfl rfl (.tail .head) rfl) rfl rfl rfl ?_
    refine Ops.pure H (X.len_slice rfl rfl rfl) rfl rfl rfl ?_
    refine Ops.pure H (X.cmp rfl rfl rfl) rfl rfl rfl ?_
    (refine Ops.nil (hK _ _ ?_); clear hK K)
    refine Run.cond_dec rfl (fun h9 => ?x2) (fun h9 => ?y2)
    case' y2 =>
      refine Run.skip ?_
    case' x2 => exfalso; omega
    (first | refine Fn.ret1 HF rfl rfl ?_ | refine Fn.ret2 HF rfl rfl rfl ?_ | refine Fn.ret3 HF rfl rfl rfl rfl ?_ | refine Fn.ret0 HF rfl ?_ | refine Fn.fin0 HF rfl ?_ | refine Fn.retG (E := env) HF rfl H (by first | exact RVs.cellN rfl rfl rfl (by first | exact .head | exact .tail .head | exact .tail (.tail .head) | exact .tail (.tail (.tail .head)) | exact .tail (.tail (.tail (.tail .head))) | exact .tail (.tail (.tail (.tail (.tail .head)))) | exact .tail (.tail (.tail (.tail (.tail (.tail .head)))))) (by first | assumption | exact Cs.take rfl) RVs.nil | exact RVs.cellN rfl rfl rfl (by first | exact .head | exact .tail .head | exact .tail (.tail .head) | exact .tail (.tail (.tail .head)) | exact .tail (.tail (.tail (.tail .head))) | exact .tail (.tail (.tail (.tail (.tail .head)))) | exact .tail (.tail (.tail (.tail (.tail (.tail .head)))))) (by first | assumption | exact Cs.take rfl) (RVs.tmp rfl RVs.nil) | exact RVs.cellN rfl rfl rfl (by first | exact .head | exact .tail .head | exact .tail (.tail .head) | exact .tail (.tail (.tail .head)) | exact .tail (.tail (.tail (.tail .head))) | exact .tail (.tail (.tail (.tail (.tail .head)))) | exact .tail (.tail (.tail (.tail (.tail (.tail .head)))))) (by first | assumption | exact Cs.take rfl) (RVs.tmp rfl (RVs.tmp rfl RVs.nil))) rfl ?_)
    exact ⟨g, .rfl' h H.fr, by unfold Ns.flies; rw [rabs_fly, List.length_map, if_neg h0], rfl, rfl, hfl, H.fr.mono (by simp), rfl⟩
end Go.Proofs.Ytpmihcefjdeonaa
