/- Walks of layer 6: the document's Down, Tick. -/
import Derived.Test.YtpmihcefjdeonaaQ8
namespace Go.Proofs.Ytpmihcefjdeonaa
open Go
set_option maxRecDepth 20000
set_option maxHeartbeats 2000000
attribute [local irreducible] Run Ops Fn Draw Draw2 PureOp StepZ

theorem RStep.get {w w' : World} {g g' : RG} (h : RStep w g w' g') {b : Nat} {o : Obj} (hb : w.heap[b]? = some o) (hn : ¬ RD g b) : w'.heap[b]? = some o := by
  obtain ⟨S, hf, hS⟩ := h.fr
  exact hf.get hb (fun hm => hn (.inl (hS b hm)))
theorem RStep.size {w w' : World} {g g' : RG} (h : RStep w g w' g') : w.heap.size ≤ w'.heap.size := by obtain ⟨S, hf, _⟩ := h.fr; exact hf.size
theorem RStep.nRD {w w' : World} {g g' : RG} (h : RStep w g w' g') {b : Nat} (hb : b < w.heap.size) (hn : ¬ RD g b) : ¬ RD g' b := fun hp => (h.own b hp).elim hn (fun h => by omega)
theorem RN.nrd {w : World} {g : RG} (h : RN w g) {b : Nat} (hb : w.heap.size ≤ b) : ¬ RD g b := fun hp => by have := h.lt hp; omega
theorem rabs_updu (g : RG) (i : Nat) (b : Bool) : RG.abs { g with up := updb g.up i b } = g.abs.setU i b := rfl
theorem rdown_any (z : World) (g : RG) (i : Int) {rb : Nat} (hrb : g.rb = rb) (h : RN z g) : Fn env.P 36 [.pointer (some ⟨rb, 0, none⟩), .int .i64 i] z (ROp z g (g.abs.downE i) (g.abs.down i)) := by
  subst hrb
  obtain ⟨tv, yv, xv, av, a1, ⟨toff, tcap, ts, rfl, t2, t3, t4, t5, t6⟩, a3, ⟨xoff, xcap, xs, rfl, x2, x3, x4, x5, x6⟩, a5⟩ := h.net
  have ntr : g.tb ≠ g.rb := ne_of_ty t4 a1 (by decide)
  have nxr : g.xb ≠ g.rb := ne_of_ty x4 a1 (by decide)
  have ntx : g.tb ≠ g.xb := ne_of_ty t4 x4 (by decide)
  have H := (((Holds.start z [g.xb, g.tb]).add false a1 (by simp) (by simp)).add true x4 (by simpa using nxr) (by simp)).add true t4 (by simpa using ⟨ntx, ntr⟩) (by simp)
  have HF := Try.func36; refine Fn.enter Try.func36 Try.ntmps36 rfl rfl rfl ?_
  refine Run.seq ?_
  (refine Run.region ?_; intro K hK)
  refine Ops.pure H (X.assign rfl) rfl rfl rfl ?_
  (refine Ops.nil (hK _ _ ?_); clear hK K)
  refine Run.seq ?_
  refine Run.seq ?_
  (refine Run.region ?_; intro K hK)
  refine Ops.pure H (X.move rfl) rfl rfl rfl ?_
  refine Ops.pure H (X.move rfl) rfl rfl rfl ?_
  refine Ops.eff rfl (Y.call rfl rfl (by first | assumption | decide +kernel) rfl (rIs_any _ g i rfl h) rfl ?_)
  rintro v w1 ⟨rfl, rfl⟩
  cases hi : g.abs.there i with
  | false =>
    refine Ops.pure H (X.not rfl) rfl rfl rfl ?_
    (refine Ops.nil (hK _ _ ?_); clear hK K)
    refine Run.cond_true rfl ?_
    refine Run.seq ?_
    (refine Run.region ?_; intro K hK)
    refine Ops.pure H (X.assign rfl) rfl rfl rfl ?_
    (refine Ops.nil (hK _ _ ?_); clear hK K)
    (first | refine Fn.ret1 HF rfl rfl ?_ | refine Fn.ret2 HF rfl rfl rfl ?_ | refine Fn.ret3 HF rfl rfl rfl rfl ?_ | refine Fn.ret0 HF rfl ?_ | refine Fn.fin0 HF rfl ?_ | refine Fn.retG (E := env) HF rfl H (by first | exact RVs.cellN rfl rfl rfl (by first | exact .head | exact .tail .head | exact .tail (.tail .head) | exact .tail (.tail (.tail .head)) | exact .tail (.tail (.tail (.tail .head))) | exact .tail (.tail (.tail (.tail (.tail .head)))) | exact .tail (.tail (.tail (.tail (.tail (.tail .head)))))) (by first | assumption | exact Cs.take rfl) RVs.nil | exact RVs.cellN rfl rfl rfl (by first | exact .head | exact .tail .head | exact .tail (.tail .head) | exact .tail (.tail (.tail .head)) | exact .tail (.tail (.tail (.tail .head))) | exact .tail (.tail (.tail (.tail (.tail .head)))) | exact .tail (.tail (.tail (.tail (.tail (.tail .head)))))) (by first | assumption | exact Cs.take rfl) (RVs.tmp rfl RVs.nil) | exact RVs.cellN rfl rfl rfl (by first | exact .head | exact .tail .head | exact .tail (.tail .head) | exact .tail (.tail (.tail .head)) | exact .tail (.tail (.tail (.tail .head))) | exact .tail (.tail (.tail (.tail (.tail .head)))) | exact .tail (.tail (.tail (.tail (.tail (.tail .head)))))) (by first | assumption | exact Cs.take rfl) (RVs.tmp rfl (RVs.tmp rfl RVs.nil))) rfl ?_)
    exact ⟨by simp [Ns.downE, hi], g, .rfl' h (Fr.refl _ _), by simp [Ns.down, hi]⟩
  | true =>
    obtain ⟨k, rfl, hk, _⟩ := there_iff.1 hi
    replace hk : k < g.n := hk
    refine Ops.pure H (X.not rfl) rfl rfl rfl ?_
    (refine Ops.nil (hK _ _ ?_); clear hK K)
    refine Run.cond_false rfl ?_
    refine Run.skip ?_
    refine Run.seq ?_
    (refine Run.region ?_; intro K hK)
    refine Ops.pure H (X.move rfl) rfl rfl rfl ?_
    refine Ops.pure H (X.nilCheck rfl) rfl rfl rfl ?_
    refine Ops.pure H (X.fieldAddr rfl rfl rfl rfl rfl rfl) rfl rfl rfl ?_
    refine Ops.pure H (X.load1 rfl rfl rfl rfl (.tail (.tail .head)) rfl) rfl rfl rfl ?_
    refine Ops.pure H (X.move rfl) rfl rfl rfl ?_
    refine Ops.pure H (X.indexAddr rfl rfl (by omega) rfl rfl rfl rfl) rfl rfl rfl ?_
    (refine Ops.eff rfl (Y.storeI rfl rfl rfl rfl rfl rfl H Upd.head (by omega) ?_); intro w H0; clear H; have H := H0; clear H0)
    (refine Ops.nil (hK _ _ ?_); clear hK K)
    refine Run.seq ?_
    (refine Run.region ?_; intro K hK)
    refine Ops.pure H (X.move rfl) rfl rfl rfl ?_
    refine Ops.pure H (X.nilCheck rfl) rfl rfl rfl ?_
    refine Ops.pure H (X.fieldAddr rfl rfl rfl rfl rfl rfl) rfl rfl rfl ?_
    refine Ops.pure H (X.load1 rfl rfl rfl rfl (.tail (.tail .head)) rfl) rfl rfl rfl ?_
    refine Ops.pure H (X.move rfl) rfl rfl rfl ?_
    refine Ops.pure H (X.indexAddr rfl rfl (by omega) rfl rfl rfl rfl) rfl rfl rfl ?_
    (refine Ops.eff rfl (Y.storeI rfl rfl rfl rfl rfl rfl H (.tail .head) (by omega) ?_); intro w H0; clear H; have H := H0; clear H0)
    (refine Ops.nil (hK _ _ ?_); clear hK K)
    refine Run.seq ?_
    (refine Run.region ?_; intro K hK)
    refine Ops.pure H (X.assign rfl) rfl rfl rfl ?_
    (refine Ops.nil (hK _ _ ?_); clear hK K)
    (first | refine Fn.ret1 HF rfl rfl ?_ | refine Fn.ret2 HF rfl rfl rfl ?_ | refine Fn.ret3 HF rfl rfl rfl rfl ?_ | refine Fn.ret0 HF rfl ?_ | refine Fn.fin0 HF rfl ?_ | refine Fn.retG (E := env) HF rfl H (by first | exact RVs.cellN rfl rfl rfl (by first | exact .head | exact .tail .head | exact .tail (.tail .head) | exact .tail (.tail (.tail .head)) | exact .tail (.tail (.tail (.tail .head))) | exact .tail (.tail (.tail (.tail (.tail .head)))) | exact .tail (.tail (.tail (.tail (.tail (.tail .head)))))) (by first | assumption | exact Cs.take rfl) RVs.nil | exact RVs.cellN rfl rfl rfl (by first | exact .head | exact .tail .head | exact .tail (.tail .head) | exact .tail (.tail (.tail .head)) | exact .tail (.tail (.tail (.tail .head))) | exact .tail (.tail (.tail (.tail (.tail .head)))) | exact .tail (.tail (.tail (.tail (.tail (.tail .head)))))) (by first | assumption | exact Cs.take rfl) (RVs.tmp rfl RVs.nil) | exact RVs.cellN rfl rfl rfl (by first | exact .head | exact .tail .head | exact .tail (.tail .head) | exact .tail (.tail (.tail .head)) | exact .tail (.tail (.tail (.tail .head))) | exact .tail (.tail (.tail (.tail (.tail .head)))) | exact .tail (.tail (.tail (.tail (.tail (.tail .head)))))) (by first | assumption | exact Cs.take rfl) (RVs.tmp rfl (RVs.tmp rfl RVs.nil))) rfl ?_)
    obtain ⟨m, m1, m2, m3, m4⟩ := H.fr.mid x4
    have mr : m.heap[g.rb]? = _ := m1.get a1 (by simpa using ntr.symm)
    have st1 := h.setUp (i := k) (v := false) hk m1 ⟨_, _, _, a1⟩ t4 (by have := H.pick (b := g.tb) (by first | exact .head | exact .tail .head | exact .tail (.tail .head) | exact .tail (.tail (.tail .head)) | exact .tail (.tail (.tail (.tail .head))) | exact .tail (.tail (.tail (.tail (.tail .head)))) | exact .tail (.tail (.tail (.tail (.tail (.tail .head)))))); rw [m4 _ ntx]; simpa [putC] using this)
    have st2 := st1.trans (st1.ok.setBox (i := k) (cs := xs) (v' := .slice none 0 0) (ob' := none) (ms' := []) hk m2 ⟨_, _, _, mr⟩ m3 (by have := H.pick (b := g.xb) (by first | exact .head | exact .tail .head | exact .tail (.tail .head) | exact .tail (.tail (.tail .head)) | exact .tail (.tail (.tail (.tail .head))) | exact .tail (.tail (.tail (.tail (.tail .head)))) | exact .tail (.tail (.tail (.tail (.tail (.tail .head)))))); simpa [putC] using this) Lst.nil (by simp) (by simp))
    exact ⟨by simp [Ns.downE, hi], _, st2, by rw [rabs_updb, rabs_updu]; simp [Ns.down, hi]⟩
theorem rtick_any (z : World) (g : RG) (i : Int) (k : Nat) {rb : Nat} (hrb : g.rb = rb) (h : RN z g) (hok : g.abs.Ok k) (hk : k ≤ 4398046511000) : Fn env.P 34 [.pointer (some ⟨rb, 0, none⟩), .int .i64 i] z (ROp z g (g.abs.tickE i) (g.abs.tick i)) := by
  subst hrb
  have hfl : g.air.length ≤ 4096 := by rw [← rfly_len]; exact hok.fly.1
  have H := Holds.start z []
  have HF := Try.func34; refine Fn.enter Try.func34 Try.ntmps34 rfl rfl rfl ?_
  refine Run.seq ?_
  (refine Run.region ?_; intro K hK)
  refine Ops.pure H (X.assign rfl) rfl rfl rfl ?_
  (refine Ops.nil (hK _ _ ?_); clear hK K)
  refine Run.seq ?_
  refine Run.seq ?_
  (refine Run.region ?_; intro K hK)
  refine Ops.pure H (X.move rfl) rfl rfl rfl ?_
  refine Ops.pure H (X.move rfl) rfl rfl rfl ?_
  refine Ops.eff rfl (Y.call rfl rfl (by first | assumption | decide +kernel) rfl (rIs_any _ g i rfl h) rfl ?_)
  rintro v w1 ⟨rfl, rfl⟩
  cases hi : g.abs.there i with
  | false =>
    refine Ops.pure H (X.not rfl) rfl rfl rfl ?_
    (refine Ops.nil (hK _ _ ?_); clear hK K)
    refine Run.cond_true rfl ?_
    refine Run.seq ?_
    (refine Run.region ?_; intro K hK)
    refine Ops.pure H (X.assign rfl) rfl rfl rfl ?_
    (refine Ops.nil (hK _ _ ?_); clear hK K)
    (first | refine Fn.ret1 HF rfl rfl ?_ | refine Fn.ret2 HF rfl rfl rfl ?_ | refine Fn.ret3 HF rfl rfl rfl rfl ?_ | refine Fn.ret0 HF rfl ?_ | refine Fn.fin0 HF rfl ?_ | refine Fn.retG (E := env) HF rfl H (by first | exact RVs.cellN rfl rfl rfl (by first | exact .head | exact .tail .head | exact .tail (.tail .head) | exact .tail (.tail (.tail .head)) | exact .tail (.tail (.tail (.tail .head))) | exact .tail (.tail (.tail (.tail (.tail .head)))) | exact .tail (.tail (.tail (.tail (.tail (.tail .head)))))) (by first | assumption | exact Cs.take rfl) RVs.nil | exact RVs.cellN rfl rfl rfl (by first | exact .head | exact .tail .head | exact .tail (.tail .head) | exact .tail (.tail (.tail .head)) | exact .tail (.tail (.tail (.tail .head))) | exact .tail (.tail (.tail (.tail (.tail .head)))) | exact .tail (.tail (.tail (.tail (.tail (.tail .head)))))) (by first | assumption | exact Cs.take rfl) (RVs.tmp rfl RVs.nil) | exact RVs.cellN rfl rfl rfl (by first | exact .head | exact .tail .head | exact .tail (.tail .head) | exact .tail (.tail (.tail .head)) | exact .tail (.tail (.tail (.tail .head))) | exact .tail (.tail (.tail (.tail (.tail .head)))) | exact .tail (.tail (.tail (.tail (.tail (.tail .head)))))) (by first | assumption | exact Cs.take rfl) (RVs.tmp rfl (RVs.tmp rfl RVs.nil))) rfl ?_)
    exact ⟨by simp [Ns.tickE, hi], g, .rfl' h (Fr.refl _ _), by simp [Ns.tick, hi]⟩
  | true =>
    obtain ⟨i, rfl, hi', _⟩ := there_iff.1 hi
    replace hi' : i < g.n := hi'
    have hE : g.abs.tickE (i : Nat) = 0 := by simp [Ns.tickE, hi]
    have h64 := h.n64
    refine Ops.pure H (X.not rfl) rfl rfl rfl ?_
    (refine Ops.nil (hK _ _ ?_); clear hK K)
    refine Run.cond_false rfl ?_
    refine Run.skip ?_
    refine Run.seq ?_
    refine Run.seq ?_
    (refine Run.region ?_; intro K hK)
    refine Ops.pure H (X.assign rfl) rfl rfl rfl ?_
    (refine Ops.nil (hK _ _ ?_); clear hK K)
    refine Run.block ?_
    refine Run.rounds (fun (x : Nat) => [(0, .pointer (some ⟨g.rb, 0, none⟩)), (1, .int .i64 (i : Nat)), (5, .int .i64 (x : Nat))]) (fun x w' => x ≤ g.n ∧ ∃ g', RStep w1 g w' g' ∧ g'.abs = g.abs.tickTo i x ∧ g'.air.length ≤ 4096) (fun x => g.n - x) 0 (by repeat (first | exact trivial | refine ⟨rfl, ?_⟩)) ⟨by omega, g, .rfl' h H.fr, rfl, hfl⟩ ?_
    clear H
    rintro x w2 ⟨hx, g2, st, hab, hf2⟩ IH
    have hR := st.ok
    obtain ⟨tv, yv, xv, av, a1, ⟨toff, tcap, ts, rfl, t2, t3, t4, t5, t6⟩, a3, a4, a5⟩ := hR.net
    have ntr : g2.tb ≠ g2.rb := ne_of_ty t4 a1 (by decide)
    rw [← st.rb]
    by_cases hlt : x < g.n
    · have hi2 : i < g2.n := by rw [st.n]; exact hi'
      have hx2 : x < g2.n := by rw [st.n]; exact hlt
      obtain ⟨tv', yoff, ycap, ycs, xv', av', roff, rcap, rcs, sa, sc, b1, y1, y2, hrv, r1, r2, hsv, r3, n1, n2, n3⟩ := hR.cell hi2 hx2
      rw [a1] at b1
      simp at b1
      obtain ⟨rfl, rfl, rfl, rfl⟩ := b1
      have hW0 := rabs_way g2 (i, x)
      have hwy : g2.abs.way = g.abs.way := by rw [hab, tickTo_way]
      have hb := hok.way (i, x)
      rw [← hwy] at hb
      have hW1 : (g2.way (i, x)).ss.length = (g2.abs.way (i, x)).sent.length := by rw [hW0]; simp [absR]
      generalize hW : g2.way (i, x) = W at *
      rw [hW0] at hb
      simp only [absR, List.length_map] at hb
      have hlag : g.abs.lag (i, x) = W.ss.length - W.told := by unfold Ns.lag; rw [← hwy, hW0]; simp [absR]
      have nt := ne_of_ty t4 r1 (by decide)
      have nt2 := ne_of_ty t4 y1 (by decide)
      have H := (((Holds.start w2 []).add false t4 (by simp) (by simp)).add false a1 (by simpa using ntr.symm) (by simp)).add false y1 (by simpa using ⟨n1, nt2.symm⟩) (by simp)
      replace H := H.add false r1 (by simpa using ⟨n3, n2, nt.symm⟩) (by simp)
      have hcast : ((W.told : Nat) : Int) + 1 = ((W.told + 1 + 0 : Nat) : Int) := by omega
      refine Run.seq ?_
      refine Run.seq ?_
      (refine Run.region ?_; intro K hK)
      refine Ops.pure H (X.move rfl) rfl rfl rfl ?_
      refine Ops.pure H (X.move rfl) rfl rfl rfl ?_
      refine Ops.pure H (X.nilCheck rfl) rfl rfl rfl ?_
      refine Ops.pure H (X.fieldAddr rfl rfl rfl rfl rfl rfl) rfl rfl rfl ?_
      refine Ops.pure H (X.load1 rfl rfl rfl rfl (.tail (.tail .head)) rfl) rfl rfl rfl ?_
      refine Ops.pure H (X.len_slice rfl rfl rfl) rfl rfl rfl ?_
      refine Ops.pure H (X.cmp rfl rfl rfl) rfl rfl rfl ?_
      (refine Ops.nil (hK _ _ ?_); clear hK K)
      refine Run.cond_dec rfl (fun h18 => ?x0) (fun h18 => ?y0)
      case' y0 => exfalso; omega
      case' x0 =>
        refine Run.skip ?_
        refine Run.seq ?_
        refine Run.block ?_
        refine Run.seq ?_
        (refine Run.region ?_; intro K hK)
        refine Ops.pure H (X.move rfl) rfl rfl rfl ?_
        refine Ops.pure H (X.nilCheck rfl) rfl rfl rfl ?_
        refine Ops.pure H (X.fieldAddr rfl rfl rfl rfl rfl rfl) rfl rfl rfl ?_
        refine Ops.pure H (X.load1 rfl rfl rfl rfl (.tail (.tail .head)) rfl) rfl rfl rfl ?_
        refine Ops.pure H (X.move rfl) rfl rfl rfl ?_
        refine Ops.pure H (X.indexAddr rfl rfl (by omega) rfl rfl rfl rfl) rfl rfl rfl ?_
        refine Ops.pure H (X.load1 rfl rfl rfl rfl (.tail .head) (by assumption)) rfl rfl rfl ?_
        refine Ops.pure H (X.move rfl) rfl rfl rfl ?_
        refine Ops.pure H (X.indexAddr rfl rfl (by omega) rfl rfl rfl rfl) rfl rfl rfl ?_
        refine Ops.pure H (X.loadN rfl rfl rfl Pick.head (by assumption)) rfl rfl rfl ?_
        (refine Ops.eff rfl (Y.alloc rfl rfl rfl H ?_); intro b6 w H0 hb6; clear H; have H := H0; clear H0)
        (refine Ops.eff rfl (Y.storeO rfl rfl rfl rfl rfl rfl H Upd.head rfl ?_); intro w H0; clear H; have H := H0; clear H0)
        (refine Ops.nil (hK _ _ ?_); clear hK K)
        refine Run.seq ?_
        (refine Run.region ?_; intro K hK)
        refine Ops.pure H (X.fieldAddr rfl rfl rfl rfl rfl rfl) rfl rfl rfl ?_
        refine Ops.pure H (X.load1 rfl rfl rfl rfl Pick.head rfl) rfl rfl rfl ?_
        refine Ops.pure H (X.succ rfl rfl (by omega)) rfl rfl rfl ?_
        refine Ops.pure H (X.assign rfl) rfl rfl rfl ?_
        (refine Ops.nil (hK _ _ ?_); clear hK K)
        refine Run.block ?_
      refine Run.rounds (fun (y : Nat) => [(0, .pointer (some ⟨g2.rb, 0, none⟩)), (1, .int .i64 (i : Nat)), (5, .int .i64 (x : Nat)), (6, .pointer (some ⟨b6, 0, none⟩)), (7, .int .i64 ((W.told + 1 + y : Nat) : Nat))]) (fun y w' => y ≤ W.ss.length - W.told ∧ w'.heap[b6]? = some (row [.int .u64 (W.ep : Nat), .slice sa W.ss.length sc, .int .i64 (W.told : Nat), .int .i64 (W.came : Nat)] 99) ∧ ∃ g', RStep w1 g w' g' ∧ g'.abs = (g.abs.tickTo i x).again (i, x) y ∧ g'.air.length ≤ 4096 ∧ ¬ RD g' b6 ∧ g'.way = g2.way ∧ g'.rb = g2.rb) (fun y => W.ss.length - W.told - y) 0 (by repeat (first | exact trivial | refine ⟨rfl, ?_⟩)) ⟨by omega, H.pick (b := b6) (by first | exact .head | exact .tail .head | exact .tail (.tail .head) | exact .tail (.tail (.tail .head)) | exact .tail (.tail (.tail (.tail .head))) | exact .tail (.tail (.tail (.tail (.tail .head)))) | exact .tail (.tail (.tail (.tail (.tail (.tail .head)))))), g2, st.ext H.fr, hab, hf2, hR.nrd hb6, rfl, rfl⟩ ?_
      clear H
      rintro y w3 ⟨hy, k6, g3, st3, hab3, hf3, hn6, hwy3, hrb3⟩ IH2
      have H := (Holds.start w3 []).add false k6 (by simp) (by simp)
      by_cases hyl : y < W.ss.length - W.told
      · refine Run.seq ?_
        refine Run.seq ?_
        (refine Run.region ?_; intro K hK)
        refine Ops.pure H (X.move rfl) rfl rfl rfl ?_
        refine Ops.pure H (X.fieldAddr rfl rfl rfl rfl rfl rfl) rfl rfl rfl ?_
        refine Ops.pure H (X.load1 rfl rfl rfl rfl Pick.head rfl) rfl rfl rfl ?_
        refine Ops.pure H (X.len_slice rfl rfl rfl) rfl rfl rfl ?_
        refine Ops.pure H (X.cmp rfl rfl rfl) rfl rfl rfl ?_
        (refine Ops.nil (hK _ _ ?_); clear hK K)
        refine Run.cond_dec rfl (fun h38 => ?x1) (fun h38 => ?y1)
        case' y1 => exfalso; omega
        case' x1 =>
          refine Run.skip ?_
          refine Run.seq ?_
          refine Run.block ?_
          (refine Run.region ?_; intro K hK)
          refine Ops.pure H (X.move rfl) rfl rfl rfl ?_
          refine Ops.pure H (X.move rfl) rfl rfl rfl ?_
          refine Ops.pure H (X.move rfl) rfl rfl rfl ?_
          refine Ops.pure H (X.move rfl) rfl rfl rfl ?_
        refine Ops.eff rfl (Y.call rfl rfl (by first | assumption | decide +kernel) rfl (message_any _ g3 i x (W.told + 1 + y) hrb3 (st3.ok.ext H.fr) (by rw [st3.n]; exact hi') (by rw [st3.n]; exact hlt) (by omega) (by rw [hwy3, hW]; omega) (by rw [hwy3, hW]; omega) hf3) rfl ?_)
        rintro v6 w6 ⟨g4, st4, hab4, hwy4, _, hf4, _⟩
        have k64 := st4.get (H.pick (b := b6) (by first | exact .head | exact .tail .head | exact .tail (.tail .head) | exact .tail (.tail (.tail .head)) | exact .tail (.tail (.tail (.tail .head))) | exact .tail (.tail (.tail (.tail (.tail .head)))) | exact .tail (.tail (.tail (.tail (.tail (.tail .head))))))) hn6
        have hn64 := st4.nRD (lt_of_at (H.pick (b := b6) (by first | exact .head | exact .tail .head | exact .tail (.tail .head) | exact .tail (.tail (.tail .head)) | exact .tail (.tail (.tail (.tail .head))) | exact .tail (.tail (.tail (.tail (.tail .head)))) | exact .tail (.tail (.tail (.tail (.tail (.tail .head)))))))) hn6
        have hrb4 := st4.rb
        replace st4 := st3.trans (.pre st3.ok H.fr st4)
        clear H
        have H := (Holds.start w6 []).add false k64 (by simp) (by simp)
        (refine Ops.nil (hK _ _ ?_); clear hK K)
        refine Run.inBlock ?_
        (refine Run.region ?_; intro K hK)
        refine Ops.pure H (X.move rfl) rfl rfl rfl ?_
        refine Ops.pure H (X.succ rfl rfl (by omega)) rfl rfl rfl ?_
        refine Ops.pure H (X.assign rfl) rfl rfl rfl ?_
        (refine Ops.nil (hK _ _ ?_); clear hK K)
        refine (IH2 (y + 1) _ (by omega) ⟨by omega, H.pick (b := b6) (by first | exact .head | exact .tail .head | exact .tail (.tail .head) | exact .tail (.tail (.tail .head)) | exact .tail (.tail (.tail (.tail .head))) | exact .tail (.tail (.tail (.tail (.tail .head)))) | exact .tail (.tail (.tail (.tail (.tail (.tail .head)))))), g4, st4.ext H.fr, ?_, hf4, hn64, hwy4.trans hwy3, hrb4.trans hrb3⟩).weak (by repeat (first | exact trivial | refine ⟨rfl, ?_⟩))
        rw [hab4, hab3, Ns.again]
        congr 1
        unfold Ns.msg
        rw [again_way]
        have e1 : W.told + 1 + y = (((g.abs.tickTo i x).way (i, x)).told + y + 1) := by
          rw [← hab, hW0]
          simp [absR]
          omega
        rw [e1]
      · refine Run.seq ?_
        refine Run.seq ?_
        (refine Run.region ?_; intro K hK)
        refine Ops.pure H (X.move rfl) rfl rfl rfl ?_
        refine Ops.pure H (X.fieldAddr rfl rfl rfl rfl rfl rfl) rfl rfl rfl ?_
        refine Ops.pure H (X.load1 rfl rfl rfl rfl Pick.head rfl) rfl rfl rfl ?_
        refine Ops.pure H (X.len_slice rfl rfl rfl) rfl rfl rfl ?_
        refine Ops.pure H (X.cmp rfl rfl rfl) rfl rfl rfl ?_
        (refine Ops.nil (hK _ _ ?_); clear hK K)
        refine Run.cond_dec rfl (fun h38 => ?x2) (fun h38 => ?y2)
        case' y2 =>
          refine Run.exit rfl ?_
          refine Run.inBlock ?_
          (refine Run.region ?_; intro K hK)
          refine Ops.pure H (X.move rfl) rfl rfl rfl ?_
          refine Ops.pure H (X.succ rfl rfl (by omega)) rfl rfl rfl ?_
          refine Ops.pure H (X.assign rfl) rfl rfl rfl ?_
          (refine Ops.nil (hK _ _ ?_); clear hK K)
        case' x2 => exfalso; omega
        refine (IH (x + 1) _ (by omega) ⟨by omega, g3, st3.ext H.fr, ?_, hf3⟩).weak (by rw [st.rb]; repeat (first | exact trivial | refine ⟨rfl, ?_⟩))
        rw [hab3, Ns.tickTo, hlag]
        congr 1
        omega
    · have H := ((Holds.start w2 []).add false t4 (by simp) (by simp)).add false a1 (by simpa using ntr.symm) (by simp)
      have e2 := st.n
      refine Run.seq ?_
      refine Run.seq ?_
      (refine Run.region ?_; intro K hK)
      refine Ops.pure H (X.move rfl) rfl rfl rfl ?_
      refine Ops.pure H (X.move rfl) rfl rfl rfl ?_
      refine Ops.pure H (X.nilCheck rfl) rfl rfl rfl ?_
      refine Ops.pure H (X.fieldAddr rfl rfl rfl rfl rfl rfl) rfl rfl rfl ?_
      refine Ops.pure H (X.load1 rfl rfl rfl rfl Pick.head rfl) rfl rfl rfl ?_
      refine Ops.pure H (X.len_slice rfl rfl rfl) rfl rfl rfl ?_
      refine Ops.pure H (X.cmp rfl rfl rfl) rfl rfl rfl ?_
      (refine Ops.nil (hK _ _ ?_); clear hK K)
      refine Run.cond_dec rfl (fun h18 => ?x3) (fun h18 => ?y3)
      case' y3 =>
        refine Run.exit rfl ?_
        refine Run.seq ?_
        (refine Run.region ?_; intro K hK)
        refine Ops.pure H (X.assign rfl) rfl rfl rfl ?_
        (refine Ops.nil (hK _ _ ?_); clear hK K)
      case' x3 => exfalso; omega
      (first | refine Fn.ret1 HF rfl rfl ?_ | refine Fn.ret2 HF rfl rfl rfl ?_ | refine Fn.ret3 HF rfl rfl rfl rfl ?_ | refine Fn.ret0 HF rfl ?_ | refine Fn.fin0 HF rfl ?_ | refine Fn.retG (E := env) HF rfl H (by first | exact RVs.cellN rfl rfl rfl (by first | exact .head | exact .tail .head | exact .tail (.tail .head) | exact .tail (.tail (.tail .head)) | exact .tail (.tail (.tail (.tail .head))) | exact .tail (.tail (.tail (.tail (.tail .head)))) | exact .tail (.tail (.tail (.tail (.tail (.tail .head)))))) (by first | assumption | exact Cs.take rfl) RVs.nil | exact RVs.cellN rfl rfl rfl (by first | exact .head | exact .tail .head | exact .tail (.tail .head) | exact .tail (.tail (.tail .head)) | exact .tail (.tail (.tail (.tail .head))) | exact .tail (.tail (.tail (.tail (.tail .head)))) | exact .tail (.tail (.tail (.tail (.tail (.tail .head)))))) (by first | assumption | exact Cs.take rfl) (RVs.tmp rfl RVs.nil) | exact RVs.cellN rfl rfl rfl (by first | exact .head | exact .tail .head | exact .tail (.tail .head) | exact .tail (.tail (.tail .head)) | exact .tail (.tail (.tail (.tail .head))) | exact .tail (.tail (.tail (.tail (.tail .head)))) | exact .tail (.tail (.tail (.tail (.tail (.tail .head)))))) (by first | assumption | exact Cs.take rfl) (RVs.tmp rfl (RVs.tmp rfl RVs.nil))) rfl ?_)
      refine ⟨by rw [hE], g2, st.ext H.fr, ?_⟩
      obtain rfl : x = g.n := by omega
      rw [hab, Ns.tick, if_pos hi]
      rfl
end Go.Proofs.Ytpmihcefjdeonaa
