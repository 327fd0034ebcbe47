/- Walks of layer 6: the document's Up. -/
import Derived.Test.YtpmihcefjdeonaaQ9
namespace Go.Proofs.Ytpmihcefjdeonaa
open Go
set_option maxRecDepth 20000
set_option maxHeartbeats 2000000
attribute [local irreducible] Run Ops Fn Draw Draw2 PureOp StepZ

theorem rup_any (z : World) (g : RG) (i : Int) (k : Nat) {rb : Nat} (hrb : g.rb = rb) (h : RN z g) (hok : g.abs.Ok k) (hk : k ≤ 4398046511000) : Fn env.P 37 [.pointer (some ⟨rb, 0, none⟩), .int .i64 i] z (ROp z g (g.abs.upE i) (g.abs.upS i)) := by
  subst hrb
  obtain ⟨tv, yv, xv, av, a1, ⟨toff, tcap, ts, rfl, t2, t3, t4, t5, t6⟩, a3, a4, a5⟩ := h.net
  have ntr : g.tb ≠ g.rb := ne_of_ty t4 a1 (by decide)
  have H := ((Holds.start z [g.tb]).add false a1 (by simp) (by simp)).add true t4 (by simpa using ntr) (by simp)
  have HF := Try.func37; refine Fn.enter Try.func37 Try.ntmps37 rfl rfl rfl ?_
  refine Run.seq ?_
  (refine Run.region ?_; intro K hK)
  refine Ops.pure H (X.assign rfl) rfl rfl rfl ?_
  (refine Ops.nil (hK _ _ ?_); clear hK K)
  refine Run.seq ?_
  refine Run.block ?_
  refine Run.seq ?_
  (refine Run.region ?_; intro K hK)
  refine Ops.pure H (X.move rfl) rfl rfl rfl ?_
  refine Ops.pure H (X.move rfl) rfl rfl rfl ?_
  refine Ops.eff rfl (Y.call rfl rfl (by first | assumption | decide +kernel) rfl (node_any _ g i rfl h) rfl ?_)
  rintro v w1 ⟨rfl, rfl⟩
  cases hi : g.abs.isN i with
  | false =>
    refine Ops.pure H (X.not rfl) rfl rfl rfl ?_
    refine Ops.pure H (X.assign rfl) rfl rfl rfl ?_
    (refine Ops.nil (hK _ _ ?_); clear hK K)
    refine Run.cond_true rfl ?_
    refine Run.seq ?_
    (refine Run.region ?_; intro K hK)
    refine Ops.pure H (X.assign rfl) rfl rfl rfl ?_
    (refine Ops.nil (hK _ _ ?_); clear hK K)
    (first | refine Fn.ret1 HF rfl rfl ?_ | refine Fn.ret2 HF rfl rfl rfl ?_ | refine Fn.ret3 HF rfl rfl rfl rfl ?_ | refine Fn.ret0 HF rfl ?_ | refine Fn.fin0 HF rfl ?_ | refine Fn.retG (E := env) HF rfl H (by first | exact RVs.cellN rfl rfl rfl (by first | exact .head | exact .tail .head | exact .tail (.tail .head) | exact .tail (.tail (.tail .head)) | exact .tail (.tail (.tail (.tail .head))) | exact .tail (.tail (.tail (.tail (.tail .head)))) | exact .tail (.tail (.tail (.tail (.tail (.tail .head)))))) (by first | assumption | exact Cs.take rfl) RVs.nil | exact RVs.cellN rfl rfl rfl (by first | exact .head | exact .tail .head | exact .tail (.tail .head) | exact .tail (.tail (.tail .head)) | exact .tail (.tail (.tail (.tail .head))) | exact .tail (.tail (.tail (.tail (.tail .head)))) | exact .tail (.tail (.tail (.tail (.tail (.tail .head)))))) (by first | assumption | exact Cs.take rfl) (RVs.tmp rfl RVs.nil) | exact RVs.cellN rfl rfl rfl (by first | exact .head | exact .tail .head | exact .tail (.tail .head) | exact .tail (.tail (.tail .head)) | exact .tail (.tail (.tail (.tail .head))) | exact .tail (.tail (.tail (.tail (.tail .head)))) | exact .tail (.tail (.tail (.tail (.tail (.tail .head)))))) (by first | assumption | exact Cs.take rfl) (RVs.tmp rfl (RVs.tmp rfl RVs.nil))) rfl ?_)
    exact ⟨by simp [Ns.upE, hi], g, .rfl' h (Fr.refl _ _), by simp [Ns.upS, Ns.upE, hi]⟩
  | true =>
    obtain ⟨i, rfl, hk'⟩ := isN_iff.1 hi
    replace hk' : i < g.n := hk'
    have hc : ts[toff + i * 1]? = some (.bool (g.up i)) := (Cs.flat (sz := 1) (f := fun i => [.bool (g.up i)]) (fun _ => rfl) t6 hk').get 0 _ rfl
    cases hu : g.up i with
    | true =>
      rw [hu] at hc
      refine Ops.pure H (X.not rfl) rfl rfl rfl ?_
      refine Ops.pure H (X.assign rfl) rfl rfl rfl ?_
      (refine Ops.nil (hK _ _ ?_); clear hK K)
      refine Run.cond_false rfl ?_
      refine Run.seq ?_
      (refine Run.region ?_; intro K hK)
      refine Ops.pure H (X.move rfl) rfl rfl rfl ?_
      refine Ops.pure H (X.nilCheck rfl) rfl rfl rfl ?_
      refine Ops.pure H (X.fieldAddr rfl rfl rfl rfl rfl rfl) rfl rfl rfl ?_
      refine Ops.pure H (X.load1 rfl rfl rfl rfl (.tail .head) rfl) rfl rfl rfl ?_
      refine Ops.pure H (X.move rfl) rfl rfl rfl ?_
      refine Ops.pure H (X.indexAddr rfl rfl (by omega) rfl rfl rfl rfl) rfl rfl rfl ?_
      refine Ops.pure H (X.load1 rfl rfl rfl rfl Pick.head (by assumption)) rfl rfl rfl ?_
      refine Ops.pure H (X.assign rfl) rfl rfl rfl ?_
      (refine Ops.nil (hK _ _ ?_); clear hK K)
      refine Run.cond_true rfl ?_
      refine Run.seq ?_
      (refine Run.region ?_; intro K hK)
      refine Ops.pure H (X.assign rfl) rfl rfl rfl ?_
      (refine Ops.nil (hK _ _ ?_); clear hK K)
      (first | refine Fn.ret1 HF rfl rfl ?_ | refine Fn.ret2 HF rfl rfl rfl ?_ | refine Fn.ret3 HF rfl rfl rfl rfl ?_ | refine Fn.ret0 HF rfl ?_ | refine Fn.fin0 HF rfl ?_ | refine Fn.retG (E := env) HF rfl H (by first | exact RVs.cellN rfl rfl rfl (by first | exact .head | exact .tail .head | exact .tail (.tail .head) | exact .tail (.tail (.tail .head)) | exact .tail (.tail (.tail (.tail .head))) | exact .tail (.tail (.tail (.tail (.tail .head)))) | exact .tail (.tail (.tail (.tail (.tail (.tail .head)))))) (by first | assumption | exact Cs.take rfl) RVs.nil | exact RVs.cellN rfl rfl rfl (by first | exact .head | exact .tail .head | exact .tail (.tail .head) | exact .tail (.tail (.tail .head)) | exact .tail (.tail (.tail (.tail .head))) | exact .tail (.tail (.tail (.tail (.tail .head)))) | exact .tail (.tail (.tail (.tail (.tail (.tail .head)))))) (by first | assumption | exact Cs.take rfl) (RVs.tmp rfl RVs.nil) | exact RVs.cellN rfl rfl rfl (by first | exact .head | exact .tail .head | exact .tail (.tail .head) | exact .tail (.tail (.tail .head)) | exact .tail (.tail (.tail (.tail .head))) | exact .tail (.tail (.tail (.tail (.tail .head)))) | exact .tail (.tail (.tail (.tail (.tail (.tail .head)))))) (by first | assumption | exact Cs.take rfl) (RVs.tmp rfl (RVs.tmp rfl RVs.nil))) rfl ?_)
      exact ⟨by simp [Ns.upE, hi, rabs_up, hu], g, .rfl' h (Fr.refl _ _), by simp [Ns.upS, Ns.upE, hi, rabs_up, hu]⟩
    | false =>
      rw [hu] at hc
      have hE : g.abs.upE (i : Nat) = 0 := by simp [Ns.upE, hi, rabs_up, hu]
      refine Ops.pure H (X.not rfl) rfl rfl rfl ?_
      refine Ops.pure H (X.assign rfl) rfl rfl rfl ?_
      (refine Ops.nil (hK _ _ ?_); clear hK K)
      refine Run.cond_false rfl ?_
      refine Run.seq ?_
      (refine Run.region ?_; intro K hK)
      refine Ops.pure H (X.move rfl) rfl rfl rfl ?_
      refine Ops.pure H (X.nilCheck rfl) rfl rfl rfl ?_
      refine Ops.pure H (X.fieldAddr rfl rfl rfl rfl rfl rfl) rfl rfl rfl ?_
      refine Ops.pure H (X.load1 rfl rfl rfl rfl (.tail .head) rfl) rfl rfl rfl ?_
      refine Ops.pure H (X.move rfl) rfl rfl rfl ?_
      refine Ops.pure H (X.indexAddr rfl rfl (by omega) rfl rfl rfl rfl) rfl rfl rfl ?_
      refine Ops.pure H (X.load1 rfl rfl rfl rfl Pick.head (by assumption)) rfl rfl rfl ?_
      refine Ops.pure H (X.assign rfl) rfl rfl rfl ?_
      (refine Ops.nil (hK _ _ ?_); clear hK K)
      refine Run.cond_false rfl ?_
      refine Run.skip ?_
      refine Run.inBlock ?_
      refine Run.seq ?_
      (refine Run.region ?_; intro K hK)
      refine Ops.pure H (X.move rfl) rfl rfl rfl ?_
      refine Ops.pure H (X.nilCheck rfl) rfl rfl rfl ?_
      refine Ops.pure H (X.fieldAddr rfl rfl rfl rfl rfl rfl) rfl rfl rfl ?_
      refine Ops.pure H (X.load1 rfl rfl rfl rfl (.tail .head) rfl) rfl rfl rfl ?_
      refine Ops.pure H (X.move rfl) rfl rfl rfl ?_
      refine Ops.pure H (X.indexAddr rfl rfl (by omega) rfl rfl rfl rfl) rfl rfl rfl ?_
      (refine Ops.eff rfl (Y.storeI rfl rfl rfl rfl rfl rfl H Upd.head (by omega) ?_); intro w H0; clear H; have H := H0; clear H0)
      (refine Ops.nil (hK _ _ ?_); clear hK K)
      refine Run.seq ?_
      refine Run.seq ?_
      (refine Run.region ?_; intro K hK)
      refine Ops.pure H (X.assign rfl) rfl rfl rfl ?_
      (refine Ops.nil (hK _ _ ?_); clear hK K)
      refine Run.block ?_
      have st := h.setUp (i := i) (v := true) hk' H.fr ⟨_, _, _, a1⟩ t4 (by have := H.pick (b := g.tb) (by first | exact .head | exact .tail .head | exact .tail (.tail .head) | exact .tail (.tail (.tail .head)) | exact .tail (.tail (.tail (.tail .head))) | exact .tail (.tail (.tail (.tail (.tail .head)))) | exact .tail (.tail (.tail (.tail (.tail (.tail .head)))))); simpa [putC] using this)
      refine Run.rounds (fun (x : Nat) => [(0, .pointer (some ⟨g.rb, 0, none⟩)), (1, .int .i64 (i : Nat)), (5, .int .i64 (x : Nat))]) (fun x w' => x ≤ g.n ∧ ∃ g', RStep w1 g w' g' ∧ g'.abs = g.abs.upTo i x) (fun x => g.n - x) 0 (by repeat (first | exact trivial | refine ⟨rfl, ?_⟩)) ⟨by omega, _, st, rabs_updu _ _ _⟩ ?_
      clear H st a1 a3 a4 a5 t2 t3 t4 t5 t6 hc ntr
      rintro x w2 ⟨hx, g2, st, hab⟩ IH
      have h64 := h.n64
      have hR := st.ok
      obtain ⟨tv, yv, xv, av, a1, ⟨toff, tcap, ts, rfl, t2, t3, t4, t5, t6⟩, a3, a4, a5⟩ := hR.net
      have ntr : g2.tb ≠ g2.rb := ne_of_ty t4 a1 (by decide)
      rw [← st.rb]
      have en := st.n
      by_cases hlt : x < g.n
      · have e1 : (g2.abs.way (i, x)).ep ≤ 4611686018427387903 := by rw [hab]; have := upTo_ep g.abs i x (i, x); have := (hok.way (i, x)).1; omega
        have e2 : (((g.abs.upTo i x).anew (i, x)).way (x, i)).ep ≤ 4611686018427387903 := by have := anew_ep (g.abs.upTo i x) (i, x) (x, i); have := upTo_ep g.abs i x (x, i); have := (hok.way (x, i)).1; omega
        have hi2 : i < g2.n := by rw [st.n]; exact hk'
        have hx2 : x < g2.n := by rw [st.n]; exact hlt
        obtain ⟨tv', yoff, ycap, ycs, xv', av', roff, rcap, rcs, sa, sc, b1, y1, y2, hrv, r1, r2, hsv, r3, n1, n2, n3⟩ := hR.cell hi2 hx2
        rw [a1] at b1
        simp at b1
        obtain ⟨rfl, rfl, rfl, rfl⟩ := b1
        have hW0 := rabs_way g2 (i, x)
        generalize hW : g2.way (i, x) = W at *
        rw [hW0] at e1
        simp only [absR] at e1
        have nt := ne_of_ty t4 r1 (by decide)
        have nt2 := ne_of_ty t4 y1 (by decide)
        have H := (((Holds.start w2 [g2.rows i]).add false t4 (by simp) (by simp)).add false a1 (by simpa using ntr.symm) (by simp)).add false y1 (by simpa using ⟨n1, nt2.symm⟩) (by simp)
        replace H := H.add true r1 (by simpa using ⟨n3, n2, nt.symm⟩) (by simp)
        have r20 : rcs[roff + x * 4 + 0]? = some (.int .u64 (W.ep : Nat)) := r2.get 0 _ rfl
        have hw1 : IntKind.u64.wrap ((W.ep : Nat) + 1) = ((W.ep + 1 : Nat) : Int) := IntWalk.u64_in _ (by omega)
        refine Run.seq ?_
        refine Run.seq ?_
        (refine Run.region ?_; intro K hK)
        refine Ops.pure H (X.move rfl) rfl rfl rfl ?_
        refine Ops.pure H (X.move rfl) rfl rfl rfl ?_
        refine Ops.pure H (X.nilCheck rfl) rfl rfl rfl ?_
        refine Ops.pure H (X.fieldAddr rfl rfl rfl rfl rfl rfl) rfl rfl rfl ?_
        refine Ops.pure H (X.load1 rfl rfl rfl rfl (.tail (.tail .head)) rfl) rfl rfl rfl ?_
        refine Ops.pure H (X.len_slice rfl rfl rfl) rfl rfl rfl ?_
        refine Ops.pure H (X.cmp rfl rfl rfl) rfl rfl rfl ?_
        (refine Ops.nil (hK _ _ ?_); clear hK K)
        refine Run.cond_dec rfl (fun h31 => ?x0) (fun h31 => ?y0)
        case' y0 => exfalso; omega
        case' x0 =>
          refine Run.skip ?_
          refine Run.seq ?_
          refine Run.block ?_
          refine Run.seq ?_
          (refine Run.draw H [22] [0, 1, 2, 3, 4, 5, 6, 7, 8, 9, 10, 11, 12, 13, 14, 15, 16, 17, 18, 19, 20, 21, 22] ?_; clear H; intro K hK w H)
          refine Draw.take0 rfl (X.move rfl) rfl rfl rfl (by decide +kernel) ?_
          refine Draw.take0 rfl (X.nilCheck rfl) rfl rfl rfl (by decide +kernel) ?_
          refine Draw.take0 rfl (X.fieldAddr rfl rfl rfl rfl rfl rfl) rfl rfl rfl (by decide +kernel) ?_
          refine Draw.take rfl (X.load1 rfl rfl rfl rfl (.tail (.tail .head)) rfl) rfl rfl rfl (by decide +kernel) ?_
          refine Draw.take0 rfl (X.move rfl) rfl rfl rfl (by decide +kernel) ?_
          refine Draw.take0 rfl (X.indexAddr rfl rfl (by omega) rfl rfl rfl rfl) rfl rfl rfl (by decide +kernel) ?_
          refine Draw.take rfl (X.load1 rfl rfl rfl rfl (.tail .head) (by assumption)) rfl rfl rfl (by decide +kernel) ?_
          refine Draw.take0 rfl (X.move rfl) rfl rfl rfl (by decide +kernel) ?_
          refine Draw.take0 rfl (X.move rfl) rfl rfl rfl (by decide +kernel) ?_
          refine Draw.take0 rfl (X.nilCheck rfl) rfl rfl rfl (by decide +kernel) ?_
          refine Draw.take0 rfl (X.fieldAddr rfl rfl rfl rfl rfl rfl) rfl rfl rfl (by decide +kernel) ?_
          refine Draw.take rfl (X.load1 rfl rfl rfl rfl (.tail (.tail .head)) rfl) rfl rfl rfl (by decide +kernel) ?_
          refine Draw.take0 rfl (X.move rfl) rfl rfl rfl (by decide +kernel) ?_
          refine Draw.take0 rfl (X.indexAddr rfl rfl (by omega) rfl rfl rfl rfl) rfl rfl rfl (by decide +kernel) ?_
          refine Draw.take rfl (X.load1 rfl rfl rfl rfl (.tail .head) (by assumption)) rfl rfl rfl (by decide +kernel) ?_
          refine Draw.take0 rfl (X.move rfl) rfl rfl rfl (by decide +kernel) ?_
          refine Draw.take0 rfl (X.indexAddr rfl rfl (by omega) rfl rfl rfl rfl) rfl rfl rfl (by decide +kernel) ?_
          refine Draw.take0 rfl (X.fieldAddr rfl rfl rfl rfl rfl rfl) rfl rfl rfl (by decide +kernel) ?_
          refine Draw.take rfl (X.load1 rfl rfl rfl rfl Pick.head (by assumption)) rfl rfl rfl (by decide +kernel) ?_
          refine Draw.take0 rfl (X.add_in rfl rfl (u64_in _ (by omega))) rfl rfl rfl (by decide +kernel) ?_
          refine Draw.take0 rfl (X.buildO rfl rfl rfl rfl rfl rfl) rfl rfl rfl (by decide +kernel) ?_
          refine Draw.take0 rfl (X.indexAddr rfl rfl (by omega) rfl rfl rfl rfl) rfl rfl rfl (by decide +kernel) ?_
        refine Draw.last rfl rfl (by decide +kernel) (Y.storeN (vs := [.int .u64 ((W.ep + 1 : Nat) : Int), .slice none 0 0, .int .i64 0, .int .i64 0]) rfl rfl rfl rfl rfl rfl H (by first | exact .head | exact .tail .head | exact .tail (.tail .head) | exact .tail (.tail (.tail .head)) | exact .tail (.tail (.tail (.tail .head))) | exact .tail (.tail (.tail (.tail (.tail .head)))) | exact .tail (.tail (.tail (.tail (.tail (.tail .head)))))) (by simp; omega) rfl ?_)
        intro w H
        (refine Draw2.done (by decide +kernel) (hK _ _ ?_); clear hK K)
        have hT := H.fr
        have st3 := st.trans (hR.setWay (c := ⟨W.ep + 1, 0, 0, .slice none 0 0, none, []⟩) hi2 hx2 hT hrv r1 (H.pick (b := g2.rows i) (by first | exact .head | exact .tail .head | exact .tail (.tail .head) | exact .tail (.tail (.tail .head)) | exact .tail (.tail (.tail (.tail .head))) | exact .tail (.tail (.tail (.tail (.tail .head)))) | exact .tail (.tail (.tail (.tail (.tail (.tail .head))))))) Lst.nil (by simp) (by simp))
        have hab3 : RG.abs { g2 with way := upda g2.way (i, x) ⟨W.ep + 1, 0, 0, .slice none 0 0, none, []⟩ } = (g.abs.upTo i x).anew (i, x) := by
          rw [rabs_upda, ← hab]
          unfold Ns.anew
          rw [hW0]
          rfl
        have hrb3 : ({ g2 with way := upda g2.way (i, x) ⟨W.ep + 1, 0, 0, .slice none 0 0, none, []⟩ } : RG).rb = g2.rb := rfl
        generalize ({ n := g2.n, rb := g2.rb, tb := g2.tb, yb := g2.yb, xb := g2.xb, ab := g2.ab, up := g2.up, rv := g2.rv, rows := g2.rows, way := upda g2.way (i, x) ⟨W.ep + 1, 0, 0, .slice none 0 0, none, []⟩, bv := g2.bv, bx := g2.bx, box := g2.box, air := g2.air } : RG) = g3 at st3 hab3 hrb3
        clear H hT
        by_cases hxi : x = i
        · subst hxi
          have H := Holds.start w []
          refine Run.seq ?_
          (refine Run.region ?_; intro K hK)
          refine Ops.pure H (X.move rfl) rfl rfl rfl ?_
          refine Ops.pure H (X.move rfl) rfl rfl rfl ?_
          refine Ops.pure H (X.cmp rfl rfl rfl) rfl rfl rfl ?_
          (refine Ops.nil (hK _ _ ?_); clear hK K)
          refine Run.cond_ndec rfl (fun h58 => ?x1) (fun h58 => ?y1)
          case' y1 =>
            refine Run.skip ?_
            refine Run.inBlock ?_
            (refine Run.region ?_; intro K hK)
            refine Ops.pure H (X.move rfl) rfl rfl rfl ?_
            refine Ops.pure H (X.succ rfl rfl (by omega)) rfl rfl rfl ?_
            refine Ops.pure H (X.assign rfl) rfl rfl rfl ?_
            (refine Ops.nil (hK _ _ ?_); clear hK K)
          case' x1 => exfalso; omega
          refine (IH (x + 1) _ (by omega) ⟨by omega, g3, st3.ext H.fr, ?_⟩).weak (by rw [st.rb]; repeat (first | exact trivial | refine ⟨rfl, ?_⟩))
          rw [hab3, Ns.upTo, if_pos rfl]
        · clear y1 y2 hrv r1 r2 hsv r3 n1 n2 n3 nt nt2 hw1 hW0 a1 a3 a4 a5 t4 t5 t6 ntr r20 hW e1 h31
          have hi3 : i < g3.n := by rw [st3.n]; exact hk'
          have hx3 : x < g3.n := by rw [st3.n]; exact hlt
          have hR3 := st3.ok
          obtain ⟨tv, yoff, ycap, ycs, xv, av, roff, rcap, rcs, sa, sc, a1, y1, y2, hrv, r1, r2, hsv, r3, n1, n2, n3⟩ := hR3.cell hx3 hi3
          have hW0 := rabs_way g3 (x, i)
          generalize hW : g3.way (x, i) = V at *
          rw [← hab3, hW0] at e2
          simp only [absR] at e2
          rw [← hrb3]
          have H := ((Holds.start w [g3.rows x]).add false a1 (by simp) (by simp)).add false y1 (by simpa using n1) (by simp)
          replace H := H.add true r1 (by simpa using ⟨n3, n2⟩) (by simp)
          have r20 : rcs[roff + i * 4 + 0]? = some (.int .u64 (V.ep : Nat)) := r2.get 0 _ rfl
          have hw1 : IntKind.u64.wrap ((V.ep : Nat) + 1) = ((V.ep + 1 : Nat) : Int) := IntWalk.u64_in _ (by omega)
          refine Run.seq ?_
          (refine Run.region ?_; intro K hK)
          refine Ops.pure H (X.move rfl) rfl rfl rfl ?_
          refine Ops.pure H (X.move rfl) rfl rfl rfl ?_
          refine Ops.pure H (X.cmp rfl rfl rfl) rfl rfl rfl ?_
          (refine Ops.nil (hK _ _ ?_); clear hK K)
          refine Run.cond_ndec rfl (fun h58 => ?x2) (fun h58 => ?y2)
          case' y2 => exfalso; omega
          case' x2 =>
            (refine Run.draw H [22] [0, 1, 2, 3, 4, 5, 6, 7, 8, 9, 10, 11, 12, 13, 14, 15, 16, 17, 18, 19, 20, 21, 22] ?_; clear H; intro K hK w H)
            refine Draw.take0 rfl (X.move rfl) rfl rfl rfl (by decide +kernel) ?_
            refine Draw.take0 rfl (X.nilCheck rfl) rfl rfl rfl (by decide +kernel) ?_
            refine Draw.take0 rfl (X.fieldAddr rfl rfl rfl rfl rfl rfl) rfl rfl rfl (by decide +kernel) ?_
            refine Draw.take rfl (X.load1 rfl rfl rfl rfl (.tail (.tail .head)) rfl) rfl rfl rfl (by decide +kernel) ?_
            refine Draw.take0 rfl (X.move rfl) rfl rfl rfl (by decide +kernel) ?_
            refine Draw.take0 rfl (X.indexAddr rfl rfl (by omega) rfl rfl rfl rfl) rfl rfl rfl (by decide +kernel) ?_
            refine Draw.take rfl (X.load1 rfl rfl rfl rfl (.tail .head) (by assumption)) rfl rfl rfl (by decide +kernel) ?_
            refine Draw.take0 rfl (X.move rfl) rfl rfl rfl (by decide +kernel) ?_
            refine Draw.take0 rfl (X.move rfl) rfl rfl rfl (by decide +kernel) ?_
            refine Draw.take0 rfl (X.nilCheck rfl) rfl rfl rfl (by decide +kernel) ?_
            refine Draw.take0 rfl (X.fieldAddr rfl rfl rfl rfl rfl rfl) rfl rfl rfl (by decide +kernel) ?_
            refine Draw.take rfl (X.load1 rfl rfl rfl rfl (.tail (.tail .head)) rfl) rfl rfl rfl (by decide +kernel) ?_
            refine Draw.take0 rfl (X.move rfl) rfl rfl rfl (by decide +kernel) ?_
            refine Draw.take0 rfl (X.indexAddr rfl rfl (by omega) rfl rfl rfl rfl) rfl rfl rfl (by decide +kernel) ?_
            refine Draw.take rfl (X.load1 rfl rfl rfl rfl (.tail .head) (by assumption)) rfl rfl rfl (by decide +kernel) ?_
            refine Draw.take0 rfl (X.move rfl) rfl rfl rfl (by decide +kernel) ?_
            refine Draw.take0 rfl (X.indexAddr rfl rfl (by omega) rfl rfl rfl rfl) rfl rfl rfl (by decide +kernel) ?_
            refine Draw.take0 rfl (X.fieldAddr rfl rfl rfl rfl rfl rfl) rfl rfl rfl (by decide +kernel) ?_
            refine Draw.take rfl (X.load1 rfl rfl rfl rfl Pick.head (by assumption)) rfl rfl rfl (by decide +kernel) ?_
            refine Draw.take0 rfl (X.add_in rfl rfl (u64_in _ (by omega))) rfl rfl rfl (by decide +kernel) ?_
            refine Draw.take0 rfl (X.buildO rfl rfl rfl rfl rfl rfl) rfl rfl rfl (by decide +kernel) ?_
            refine Draw.take0 rfl (X.indexAddr rfl rfl (by omega) rfl rfl rfl rfl) rfl rfl rfl (by decide +kernel) ?_
          refine Draw.last rfl rfl (by decide +kernel) (Y.storeN (vs := [.int .u64 ((V.ep + 1 : Nat) : Int), .slice none 0 0, .int .i64 0, .int .i64 0]) rfl rfl rfl rfl rfl rfl H (by first | exact .head | exact .tail .head | exact .tail (.tail .head) | exact .tail (.tail (.tail .head)) | exact .tail (.tail (.tail (.tail .head))) | exact .tail (.tail (.tail (.tail (.tail .head)))) | exact .tail (.tail (.tail (.tail (.tail (.tail .head)))))) (by simp; omega) rfl ?_)
          intro w H
          (refine Draw2.done (by decide +kernel) (hK _ _ ?_); clear hK K)
          refine Run.inBlock ?_
          (refine Run.region ?_; intro K hK)
          refine Ops.pure H (X.move rfl) rfl rfl rfl ?_
          refine Ops.pure H (X.succ rfl rfl (by omega)) rfl rfl rfl ?_
          refine Ops.pure H (X.assign rfl) rfl rfl rfl ?_
          (refine Ops.nil (hK _ _ ?_); clear hK K)
          have st4 := st3.trans (hR3.setWay (c := ⟨V.ep + 1, 0, 0, .slice none 0 0, none, []⟩) hx3 hi3 H.fr hrv r1 (H.pick (b := g3.rows x) (by first | exact .head | exact .tail .head | exact .tail (.tail .head) | exact .tail (.tail (.tail .head)) | exact .tail (.tail (.tail (.tail .head))) | exact .tail (.tail (.tail (.tail (.tail .head)))) | exact .tail (.tail (.tail (.tail (.tail (.tail .head))))))) Lst.nil (by simp) (by simp))
          refine (IH (x + 1) _ (by omega) ⟨by omega, _, st4, ?_⟩).weak (by rw [← st3.rb]; repeat (first | exact trivial | refine ⟨rfl, ?_⟩))
          rw [rabs_upda, Ns.upTo, if_neg hxi, ← hab3]
          unfold Ns.anew
          rw [hW0]
          rfl
      · have H := ((Holds.start w2 []).add false t4 (by simp) (by simp)).add false a1 (by simpa using ntr.symm) (by simp)
        refine Run.seq ?_
        refine Run.seq ?_
        (refine Run.region ?_; intro K hK)
        refine Ops.pure H (X.move rfl) rfl rfl rfl ?_
        refine Ops.pure H (X.move rfl) rfl rfl rfl ?_
        refine Ops.pure H (X.nilCheck rfl) rfl rfl rfl ?_
        refine Ops.pure H (X.fieldAddr rfl rfl rfl rfl rfl rfl) rfl rfl rfl ?_
        refine Ops.pure H (X.load1 rfl rfl rfl rfl Pick.head rfl) rfl rfl rfl ?_
        refine Ops.pure H (X.len_slice rfl rfl rfl) rfl rfl rfl ?_
        refine Ops.pure H (X.cmp rfl rfl rfl) rfl rfl rfl ?_
        (refine Ops.nil (hK _ _ ?_); clear hK K)
        refine Run.cond_dec rfl (fun h31 => ?x3) (fun h31 => ?y3)
        case' y3 =>
          refine Run.exit rfl ?_
          refine Run.seq ?_
          (refine Run.region ?_; intro K hK)
          refine Ops.pure H (X.assign rfl) rfl rfl rfl ?_
          (refine Ops.nil (hK _ _ ?_); clear hK K)
        case' x3 => exfalso; omega
        (first | refine Fn.ret1 HF rfl rfl ?_ | refine Fn.ret2 HF rfl rfl rfl ?_ | refine Fn.ret3 HF rfl rfl rfl rfl ?_ | refine Fn.ret0 HF rfl ?_ | refine Fn.fin0 HF rfl ?_ | refine Fn.retG (E := env) HF rfl H (by first | exact RVs.cellN rfl rfl rfl (by first | exact .head | exact .tail .head | exact .tail (.tail .head) | exact .tail (.tail (.tail .head)) | exact .tail (.tail (.tail (.tail .head))) | exact .tail (.tail (.tail (.tail (.tail .head)))) | exact .tail (.tail (.tail (.tail (.tail (.tail .head)))))) (by first | assumption | exact Cs.take rfl) RVs.nil | exact RVs.cellN rfl rfl rfl (by first | exact .head | exact .tail .head | exact .tail (.tail .head) | exact .tail (.tail (.tail .head)) | exact .tail (.tail (.tail (.tail .head))) | exact .tail (.tail (.tail (.tail (.tail .head)))) | exact .tail (.tail (.tail (.tail (.tail (.tail .head)))))) (by first | assumption | exact Cs.take rfl) (RVs.tmp rfl RVs.nil) | exact RVs.cellN rfl rfl rfl (by first | exact .head | exact .tail .head | exact .tail (.tail .head) | exact .tail (.tail (.tail .head)) | exact .tail (.tail (.tail (.tail .head))) | exact .tail (.tail (.tail (.tail (.tail .head)))) | exact .tail (.tail (.tail (.tail (.tail (.tail .head)))))) (by first | assumption | exact Cs.take rfl) (RVs.tmp rfl (RVs.tmp rfl RVs.nil))) rfl ?_)
        refine ⟨by rw [hE], g2, st.ext H.fr, ?_⟩
        obtain rfl : x = g.n := by omega
        rw [hab, Ns.upS, if_pos hE]
        rfl
end Go.Proofs.Ytpmihcefjdeonaa
