/- Walks of layer 6: the document's message, Unsure, Twice. -/
import Derived.Test.YtpmihcefjdeonaaQ3
namespace Go.Proofs.Ytpmihcefjdeonaa
open Go
set_option maxRecDepth 20000
set_option maxHeartbeats 2000000
attribute [local irreducible] Run Ops Fn Draw Draw2 PureOp StepZ

theorem RN.cell {w : World} {g : RG} (h : RN w g) {i j : Nat} (hi : i < g.n) (hj : j < g.n) : ∃ tv yoff ycap ycs xv av roff rcap rcs sa sc, w.heap[g.rb]? = some (row [tv, .slice (some ⟨g.yb, yoff, none⟩) g.n ycap, xv, av] 69) ∧ w.heap[g.yb]? = some (row ycs 96) ∧ ycs[yoff + i * 1]? = some (.slice (some ⟨g.rows i, roff, none⟩) g.n rcap) ∧ g.rv i = .slice (some ⟨g.rows i, roff, none⟩) g.n rcap ∧ w.heap[g.rows i]? = some (row rcs 99) ∧
    Cs rcs (roff + j * 4) 4 [.int .u64 ((g.way (i, j)).ep : Nat), .slice sa (g.way (i, j)).ss.length sc, .int .i64 ((g.way (i, j)).told : Nat), .int .i64 ((g.way (i, j)).came : Nat)] ∧ (g.way (i, j)).sv = .slice sa (g.way (i, j)).ss.length sc ∧ roff + g.n * 4 ≤ rcs.length ∧ g.yb ≠ g.rb ∧ g.rows i ≠ g.rb ∧ g.rows i ≠ g.yb := by
  obtain ⟨tv, yv, xv, av, a1, a2, ⟨yoff, ycap, ycs, rfl, y2, y3, y4, y5, y6⟩, a4, a5⟩ := h.net
  obtain ⟨roff, rcap, rcs, hrv, r2, r3, r4, r5, r6⟩ := h.rowr i hi
  obtain ⟨sa, sc, hsv, _⟩ := (h.sent i j hi hj).slice
  have hle : g.n * 4 ≤ rcap * 4 := Nat.mul_le_mul_right _ r2
  refine ⟨tv, yoff, ycap, ycs, xv, av, roff, rcap, rcs, sa, sc, a1, y4, ?_, hrv, r4, ?_, hsv, by omega, ne_of_ty y4 a1 (by decide), ne_of_ty r4 a1 (by decide), ne_of_ty r4 y4 (by decide)⟩
  · have := Cs.flat (sz := 1) (f := fun i => [g.rv i]) (fun _ => rfl) y6 hi
    rw [← hrv]
    exact this.get 0 _ rfl
  · have := Cs.flat (sz := 4) (f := fun j => rwC (g.way (i, j))) (fun _ => rfl) r6 hj
    rw [← hsv]
    exact this
theorem message_any (z : World) (g : RG) (i j no : Nat) {rb : Nat} (hrb : g.rb = rb) (h : RN z g) (hi : i < g.n) (hj : j < g.n) (h1 : 1 ≤ no) (h2 : no ≤ (g.way (i, j)).ss.length) (h3 : (g.way (i, j)).ss.length ≤ 4611686018427387903) (hfl : g.air.length ≤ 4096) : Fn env.P 57 [.pointer (some ⟨rb, 0, none⟩), .int .i64 (i : Nat), .int .i64 (j : Nat), .int .i64 (no : Nat)] z fun _ w' =>
    ∃ g', RStep z g w' g' ∧ g'.abs = g.abs.flies (g.abs.msg (i, j) no) ∧ g'.way = g.way ∧ g'.box = g.box ∧ g'.air.length ≤ 4096 ∧ g'.up = g.up := by
  subst hrb
  obtain ⟨tv, yoff, ycap, ycs, xv, av, roff, rcap, rcs, sa, sc, a1, y1, y2, hrv, r1, r2, hsv, r3, n1, n2, n3⟩ := h.cell hi hj
  have hS := h.sent i j hi hj
  have hSb := h.sentb i j hi hj
  rw [hsv] at hS
  generalize hW : g.way (i, j) = W at *
  obtain ⟨b, off, cap, cs, hsb, e, l1, l2, l3, l4, l5⟩ := hS.pos (by omega)
  cases e
  have hlt : no - 1 < W.ss.length := by omega
  have hsub : ((no : Nat) : Int) - 1 = ((no - 1 : Nat) : Int) := by omega
  have hBp := hSb _ (List.getElem_mem hlt)
  obtain ⟨pa, pc, hpv⟩ := hBp.slice
  obtain ⟨q, hq⟩ : ∃ q, W.ss[no - 1] = q := ⟨_, rfl⟩
  have hqm : q ∈ W.ss := by rw [← hq]; exact List.getElem_mem _
  rw [hq] at hBp hpv
  obtain ⟨bs, qv⟩ := q
  dsimp only at hBp hpv
  subst hpv
  have hcell : cs[off + (no - 1) * 1]? = some (.slice pa bs.length pc) := by
    rw [l5.toGet (j := (no - 1) * 1) (by omega), Nat.mul_one]
    simp [hlt, hq]
  have hmsg : g.abs.msg (i, j) no = ⟨i, j, false, no, W.ep, bs⟩ := by
    unfold Ns.msg
    rw [rabs_way, hW]
    simp [absR, List.getD_eq_getElem?_getD, hlt, hq]
  have hw : IntKind.u64.wrap (no : Nat) = (no : Nat) := IntWalk.u64_in _ (by omega)
  have H := ((((Holds.start z []).add false l3 (by simp) (by simp)).add false r1 (by simpa using ne_of_ty r1 l3 (by decide)) (by simp)).add false y1 (by simpa using ⟨n3.symm, ne_of_ty y1 l3 (by decide)⟩) (by simp)).add false a1 (by simpa using ⟨n1.symm, n2.symm, ne_of_ty a1 l3 (by decide)⟩) (by simp)
  have HF := Try.func57; refine Fn.enter Try.func57 Try.ntmps57 rfl rfl rfl ?_
  refine Run.seq ?_
  (refine Run.region ?_; intro K hK)
  refine Ops.pure H (X.move rfl) rfl rfl rfl ?_
  refine Ops.pure H (X.nilCheck rfl) rfl rfl rfl ?_
  refine Ops.pure H (X.fieldAddr rfl rfl rfl rfl rfl rfl) rfl rfl rfl ?_
  refine Ops.pure H (X.load1 rfl rfl rfl rfl Pick.head rfl) rfl rfl rfl ?_
  refine Ops.pure H (X.move rfl) rfl rfl rfl ?_
  refine Ops.pure H (X.indexAddr rfl rfl (by omega) rfl rfl rfl rfl) rfl rfl rfl ?_
  refine Ops.pure H (X.load1 rfl rfl rfl rfl (.tail .head) (by assumption)) rfl rfl rfl ?_
  refine Ops.pure H (X.move rfl) rfl rfl rfl ?_
  refine Ops.pure H (X.indexAddr rfl rfl (by omega) rfl rfl rfl rfl) rfl rfl rfl ?_
  refine Ops.pure H (X.loadN rfl rfl rfl (.tail (.tail .head)) (by assumption)) rfl rfl rfl ?_
  (refine Ops.eff rfl (Y.alloc rfl rfl rfl H ?_); intro b8 w H0 hb8; clear H; have H := H0; clear H0)
  (refine Ops.eff rfl (Y.storeO rfl rfl rfl rfl rfl rfl H Upd.head rfl ?_); intro w H0; clear H; have H := H0; clear H0)
  (refine Ops.nil (hK _ _ ?_); clear hK K)
  have t8 := H.pick .head
  have hF := H.fr
  replace H := (((Holds.start z []).ext hF).add false (hF.get l3 (by simp)) (by simp) (by simp)).add false t8 (by simpa using ne_of_ty t8 (hF.get l3 (by simp)) (by decide)) (by simp)
  have hbrb : b ≠ g.rb := ne_of_ty l3 a1 (by decide)
  have h8rb : b8 ≠ g.rb := by have := lt_of_at a1; omega
  (refine Run.draw H [] [0, 1, 2, 3, 4, 5, 6, 7, 8, 9, 10, 11, 12, 13, 14] ?_; clear H; intro K hK w H)
  refine Draw.take0 rfl (X.move rfl) rfl rfl rfl (by decide +kernel) ?_
  refine Draw.take0 rfl (X.move rfl) rfl rfl rfl (by decide +kernel) ?_
  refine Draw.take0 rfl (X.move rfl) rfl rfl rfl (by decide +kernel) ?_
  refine Draw.take0 rfl (X.move rfl) rfl rfl rfl (by decide +kernel) ?_
  refine Draw.take0 rfl (X.conv rfl rfl rfl rfl rfl (u64_in _ (by omega))) rfl rfl rfl (by decide +kernel) ?_
  refine Draw.take0 rfl (X.fieldAddr rfl rfl rfl rfl rfl rfl) rfl rfl rfl (by decide +kernel) ?_
  refine Draw.take rfl (X.load1 rfl rfl rfl rfl Pick.head rfl) rfl rfl rfl (by decide +kernel) ?_
  refine Draw.take0 rfl (X.fieldAddr rfl rfl rfl rfl rfl rfl) rfl rfl rfl (by decide +kernel) ?_
  refine Draw.take rfl (X.load1 rfl rfl rfl rfl Pick.head rfl) rfl rfl rfl (by decide +kernel) ?_
  refine Draw.take0 rfl (X.move rfl) rfl rfl rfl (by decide +kernel) ?_
  refine Draw.take0 rfl (X.sub_in rfl rfl (IntWalk.i64_in _ (by omega))) rfl rfl rfl (by decide +kernel) ?_
  rw [hsub]
  refine Draw.take0 rfl (X.indexAddr rfl rfl (by omega) rfl rfl rfl rfl) rfl rfl rfl (by decide +kernel) ?_
  refine Draw.take rfl (X.load1 rfl rfl rfl rfl (.tail .head) (by assumption)) rfl rfl rfl (by decide +kernel) ?_
  refine Draw.take0 rfl (X.buildO rfl rfl rfl rfl rfl rfl) rfl rfl rfl (by decide +kernel) ?_
  refine Draw.eff rfl rfl (by decide +kernel) (Y.call rfl rfl (by first | assumption | decide +kernel) rfl (rfly_any _ g ⟨i, j, false, no, W.ep, bs⟩ (.slice pa bs.length pc) rfl (h.ext H.fr) (hBp.ext H.fr) (fun b hb => .inl (.inr (.inr ⟨i, j, _, hi, hj, by rw [hW]; exact hqm, hb⟩))) hfl) rfl ?_)
  rintro v w2 ⟨g', st, hab, hwy, hbx, hfl', hfr, hup⟩
  refine ⟨fun e he => hfr.get (H.at_ e he) ?_, ?_⟩
  · simp at he
    rcases he with rfl | rfl
    · simpa using h8rb
    · simpa using hbrb
  replace st := st.pre h H.fr
  clear H
  have H := Holds.start w2 []
  (refine Draw.done (by decide +kernel) (hK _ _ ?_); clear hK K)
  (first | refine Fn.ret1 HF rfl rfl ?_ | refine Fn.ret2 HF rfl rfl rfl ?_ | refine Fn.ret3 HF rfl rfl rfl rfl ?_ | refine Fn.ret0 HF rfl ?_ | refine Fn.fin0 HF rfl ?_ | refine Fn.retG (E := env) HF rfl H (by first | exact RVs.cellN rfl rfl rfl (by first | exact .head | exact .tail .head | exact .tail (.tail .head) | exact .tail (.tail (.tail .head)) | exact .tail (.tail (.tail (.tail .head))) | exact .tail (.tail (.tail (.tail (.tail .head)))) | exact .tail (.tail (.tail (.tail (.tail (.tail .head)))))) (by first | assumption | exact Cs.take rfl) RVs.nil | exact RVs.cellN rfl rfl rfl (by first | exact .head | exact .tail .head | exact .tail (.tail .head) | exact .tail (.tail (.tail .head)) | exact .tail (.tail (.tail (.tail .head))) | exact .tail (.tail (.tail (.tail (.tail .head)))) | exact .tail (.tail (.tail (.tail (.tail (.tail .head)))))) (by first | assumption | exact Cs.take rfl) (RVs.tmp rfl RVs.nil) | exact RVs.cellN rfl rfl rfl (by first | exact .head | exact .tail .head | exact .tail (.tail .head) | exact .tail (.tail (.tail .head)) | exact .tail (.tail (.tail (.tail .head))) | exact .tail (.tail (.tail (.tail (.tail .head)))) | exact .tail (.tail (.tail (.tail (.tail (.tail .head)))))) (by first | assumption | exact Cs.take rfl) (RVs.tmp rfl (RVs.tmp rfl RVs.nil))) rfl ?_)
  exact ⟨g', st.ext H.fr, by rw [hab, hmsg], hwy, hbx, hfl', hup⟩
theorem rUnsure_any (z : World) (g : RG) (i j : Int) {rb : Nat} (hrb : g.rb = rb) (h : RN z g) (hb : ∀ a, (g.abs.way a).told ≤ (g.abs.way a).sent.length ∧ (g.abs.way a).sent.length ≤ 4611686018427387903) : Fn env.P 38 [.pointer (some ⟨rb, 0, none⟩), .int .i64 i, .int .i64 j] z fun v w' =>
    v = .tuple #[.int .i64 (if g.abs.isN i ∧ g.abs.isN j then (g.abs.way (i.toNat, j.toNat)).sent.length - (g.abs.way (i.toNat, j.toNat)).told else 0 : Nat), .int .i64 (if g.abs.isN i ∧ g.abs.isN j then 0 else 60)] ∧ Fr z w' [] := by
  subst hrb
  have H := Holds.start z []
  have HF := Try.func38; refine Fn.enter Try.func38 Try.ntmps38 rfl rfl rfl ?_
  refine Run.seq ?_
  (refine Run.region ?_; intro K hK)
  refine Ops.pure H (X.assign rfl) rfl rfl rfl ?_
  refine Ops.pure H (X.assign rfl) rfl rfl rfl ?_
  (refine Ops.nil (hK _ _ ?_); clear hK K)
  refine Run.seq ?_
  refine Run.seq ?_
  (refine Run.region ?_; intro K hK)
  refine Ops.pure H (X.move rfl) rfl rfl rfl ?_
  refine Ops.pure H (X.move rfl) rfl rfl rfl ?_
  refine Ops.eff rfl (Y.call rfl rfl (by first | assumption | decide +kernel) rfl (node_any _ g i rfl h) rfl ?_)
  rintro v w1 ⟨rfl, rfl⟩
  cases hi : g.abs.isN i with
  | false =>
    refine Ops.pure H (X.not rfl) rfl rfl rfl ?_
    refine Ops.pure H (X.move rfl) rfl rfl rfl ?_
    refine Ops.pass rfl rfl rfl ?_
    refine Ops.pass rfl rfl rfl ?_
    refine Ops.pass rfl rfl rfl ?_
    refine Ops.pass rfl rfl rfl ?_
    refine Ops.pure H (X.pick_t rfl rfl) rfl rfl rfl ?_
    (refine Ops.nil (hK _ _ ?_); clear hK K)
    refine Run.cond_true rfl ?_
    refine Run.seq ?_
    (refine Run.region ?_; intro K hK)
    refine Ops.pure H (X.assign rfl) rfl rfl rfl ?_
    refine Ops.pure H (X.assign rfl) rfl rfl rfl ?_
    (refine Ops.nil (hK _ _ ?_); clear hK K)
    (first | refine Fn.ret1 HF rfl rfl ?_ | refine Fn.ret2 HF rfl rfl rfl ?_ | refine Fn.ret3 HF rfl rfl rfl rfl ?_ | refine Fn.ret0 HF rfl ?_ | refine Fn.fin0 HF rfl ?_ | refine Fn.retG (E := env) HF rfl H (by first | exact RVs.cellN rfl rfl rfl (by first | exact .head | exact .tail .head | exact .tail (.tail .head) | exact .tail (.tail (.tail .head)) | exact .tail (.tail (.tail (.tail .head))) | exact .tail (.tail (.tail (.tail (.tail .head)))) | exact .tail (.tail (.tail (.tail (.tail (.tail .head)))))) (by first | assumption | exact Cs.take rfl) RVs.nil | exact RVs.cellN rfl rfl rfl (by first | exact .head | exact .tail .head | exact .tail (.tail .head) | exact .tail (.tail (.tail .head)) | exact .tail (.tail (.tail (.tail .head))) | exact .tail (.tail (.tail (.tail (.tail .head)))) | exact .tail (.tail (.tail (.tail (.tail (.tail .head)))))) (by first | assumption | exact Cs.take rfl) (RVs.tmp rfl RVs.nil) | exact RVs.cellN rfl rfl rfl (by first | exact .head | exact .tail .head | exact .tail (.tail .head) | exact .tail (.tail (.tail .head)) | exact .tail (.tail (.tail (.tail .head))) | exact .tail (.tail (.tail (.tail (.tail .head)))) | exact .tail (.tail (.tail (.tail (.tail (.tail .head)))))) (by first | assumption | exact Cs.take rfl) (RVs.tmp rfl (RVs.tmp rfl RVs.nil))) rfl ?_)
    exact ⟨by simp [hi], H.fr⟩
  | true =>
    refine Ops.pure H (X.not rfl) rfl rfl rfl ?_
    refine Ops.pure H (X.move rfl) rfl rfl rfl ?_
    refine Ops.pure H (X.move rfl) rfl rfl rfl ?_
    refine Ops.pure H (X.move rfl) rfl rfl rfl ?_
    refine Ops.eff rfl (Y.call rfl rfl (by first | assumption | decide +kernel) rfl (node_any _ g j rfl h) rfl ?_)
    rintro v w1 ⟨rfl, rfl⟩
    cases hj : g.abs.isN j with
    | false =>
      refine Ops.pure H (X.not rfl) rfl rfl rfl ?_
      refine Ops.pure H (X.pick_f rfl rfl) rfl rfl rfl ?_
      (refine Ops.nil (hK _ _ ?_); clear hK K)
      refine Run.cond_true rfl ?_
      refine Run.seq ?_
      (refine Run.region ?_; intro K hK)
      refine Ops.pure H (X.assign rfl) rfl rfl rfl ?_
      refine Ops.pure H (X.assign rfl) rfl rfl rfl ?_
      (refine Ops.nil (hK _ _ ?_); clear hK K)
      (first | refine Fn.ret1 HF rfl rfl ?_ | refine Fn.ret2 HF rfl rfl rfl ?_ | refine Fn.ret3 HF rfl rfl rfl rfl ?_ | refine Fn.ret0 HF rfl ?_ | refine Fn.fin0 HF rfl ?_ | refine Fn.retG (E := env) HF rfl H (by first | exact RVs.cellN rfl rfl rfl (by first | exact .head | exact .tail .head | exact .tail (.tail .head) | exact .tail (.tail (.tail .head)) | exact .tail (.tail (.tail (.tail .head))) | exact .tail (.tail (.tail (.tail (.tail .head)))) | exact .tail (.tail (.tail (.tail (.tail (.tail .head)))))) (by first | assumption | exact Cs.take rfl) RVs.nil | exact RVs.cellN rfl rfl rfl (by first | exact .head | exact .tail .head | exact .tail (.tail .head) | exact .tail (.tail (.tail .head)) | exact .tail (.tail (.tail (.tail .head))) | exact .tail (.tail (.tail (.tail (.tail .head)))) | exact .tail (.tail (.tail (.tail (.tail (.tail .head)))))) (by first | assumption | exact Cs.take rfl) (RVs.tmp rfl RVs.nil) | exact RVs.cellN rfl rfl rfl (by first | exact .head | exact .tail .head | exact .tail (.tail .head) | exact .tail (.tail (.tail .head)) | exact .tail (.tail (.tail (.tail .head))) | exact .tail (.tail (.tail (.tail (.tail .head)))) | exact .tail (.tail (.tail (.tail (.tail (.tail .head)))))) (by first | assumption | exact Cs.take rfl) (RVs.tmp rfl (RVs.tmp rfl RVs.nil))) rfl ?_)
      exact ⟨by simp [hj], H.fr⟩
    | true =>
      obtain ⟨i, rfl, hi'⟩ := isN_iff.1 hi
      obtain ⟨j, rfl, hj'⟩ := isN_iff.1 hj
      replace hi' : i < g.n := hi'
      replace hj' : j < g.n := hj'
      obtain ⟨tv, yoff, ycap, ycs, xv, av, roff, rcap, rcs, sa, sc, a1, y1, y2, hrv, r1, r2, hsv, r3, n1, n2, n3⟩ := h.cell hi' hj'
      have hbb := hb (i, j)
      rw [rabs_way] at hbb
      simp only [absR, List.length_map] at hbb
      generalize hW : g.way (i, j) = W at *
      have hsub : ((W.ss.length : Nat) : Int) - (W.told : Nat) = ((W.ss.length - W.told : Nat) : Int) := by omega
      clear H
      have H := (((Holds.start w1 []).add false r1 (by simp) (by simp)).add false y1 (by simpa using n3.symm) (by simp)).add false a1 (by simpa using ⟨n1.symm, n2.symm⟩) (by simp)
      refine Ops.pure H (X.not rfl) rfl rfl rfl ?_
      refine Ops.pure H (X.pick_f rfl rfl) rfl rfl rfl ?_
      (refine Ops.nil (hK _ _ ?_); clear hK K)
      refine Run.cond_false rfl ?_
      refine Run.skip ?_
      refine Run.seq ?_
      (refine Run.region ?_; intro K hK)
      refine Ops.pure H (X.move rfl) rfl rfl rfl ?_
      refine Ops.pure H (X.nilCheck rfl) rfl rfl rfl ?_
      refine Ops.pure H (X.fieldAddr rfl rfl rfl rfl rfl rfl) rfl rfl rfl ?_
      refine Ops.pure H (X.load1 rfl rfl rfl rfl Pick.head rfl) rfl rfl rfl ?_
      refine Ops.pure H (X.move rfl) rfl rfl rfl ?_
      refine Ops.pure H (X.indexAddr rfl rfl (by omega) rfl rfl rfl rfl) rfl rfl rfl ?_
      refine Ops.pure H (X.load1 rfl rfl rfl rfl (.tail .head) (by assumption)) rfl rfl rfl ?_
      refine Ops.pure H (X.move rfl) rfl rfl rfl ?_
      refine Ops.pure H (X.indexAddr rfl rfl (by omega) rfl rfl rfl rfl) rfl rfl rfl ?_
      refine Ops.pure H (X.loadN rfl rfl rfl (.tail (.tail .head)) (by assumption)) rfl rfl rfl ?_
      (refine Ops.eff rfl (Y.alloc rfl rfl rfl H ?_); intro b8 w H0 hb8; clear H; have H := H0; clear H0)
      (refine Ops.eff rfl (Y.storeO rfl rfl rfl rfl rfl rfl H Upd.head rfl ?_); intro w H0; clear H; have H := H0; clear H0)
      (refine Ops.nil (hK _ _ ?_); clear hK K)
      refine Run.seq ?_
      (refine Run.region ?_; intro K hK)
      refine Ops.pure H (X.fieldAddr rfl rfl rfl rfl rfl rfl) rfl rfl rfl ?_
      refine Ops.pure H (X.load1 rfl rfl rfl rfl Pick.head rfl) rfl rfl rfl ?_
      refine Ops.pure H (X.len_slice rfl rfl rfl) rfl rfl rfl ?_
      refine Ops.pure H (X.fieldAddr rfl rfl rfl rfl rfl rfl) rfl rfl rfl ?_
      refine Ops.pure H (X.load1 rfl rfl rfl rfl Pick.head rfl) rfl rfl rfl ?_
      refine Ops.pure H (X.sub_in rfl rfl (IntWalk.i64_in _ (by omega))) rfl rfl rfl ?_
      refine Ops.pure H (X.assign rfl) rfl rfl rfl ?_
      refine Ops.pure H (X.assign rfl) rfl rfl rfl ?_
      (refine Ops.nil (hK _ _ ?_); clear hK K)
      (first | refine Fn.ret1 HF rfl rfl ?_ | refine Fn.ret2 HF rfl rfl rfl ?_ | refine Fn.ret3 HF rfl rfl rfl rfl ?_ | refine Fn.ret0 HF rfl ?_ | refine Fn.fin0 HF rfl ?_ | refine Fn.retG (E := env) HF rfl H (by first | exact RVs.cellN rfl rfl rfl (by first | exact .head | exact .tail .head | exact .tail (.tail .head) | exact .tail (.tail (.tail .head)) | exact .tail (.tail (.tail (.tail .head))) | exact .tail (.tail (.tail (.tail (.tail .head)))) | exact .tail (.tail (.tail (.tail (.tail (.tail .head)))))) (by first | assumption | exact Cs.take rfl) RVs.nil | exact RVs.cellN rfl rfl rfl (by first | exact .head | exact .tail .head | exact .tail (.tail .head) | exact .tail (.tail (.tail .head)) | exact .tail (.tail (.tail (.tail .head))) | exact .tail (.tail (.tail (.tail (.tail .head)))) | exact .tail (.tail (.tail (.tail (.tail (.tail .head)))))) (by first | assumption | exact Cs.take rfl) (RVs.tmp rfl RVs.nil) | exact RVs.cellN rfl rfl rfl (by first | exact .head | exact .tail .head | exact .tail (.tail .head) | exact .tail (.tail (.tail .head)) | exact .tail (.tail (.tail (.tail .head))) | exact .tail (.tail (.tail (.tail (.tail .head)))) | exact .tail (.tail (.tail (.tail (.tail (.tail .head)))))) (by first | assumption | exact Cs.take rfl) (RVs.tmp rfl (RVs.tmp rfl RVs.nil))) rfl ?_)
      refine ⟨?_, H.fr⟩
      simp only [hi, hj, Int.toNat_natCast, and_self, if_true]
      rw [rabs_way, hW, hsub]
      simp only [absR, List.length_map]
theorem rfly_len {g : RG} : g.abs.fly.length = g.air.length := by rw [rabs_fly, List.length_map]
def ROp (z : World) (g : RG) (e : Int) (s' : Ns) (v : Value) (w' : World) : Prop := v = .int .i64 e ∧ ∃ g', RStep z g w' g' ∧ g'.abs = s'
theorem air_cell {w : World} {g : RG} {av : Value} (hb : ∀ p ∈ g.air, Bts w p.2 p.1.b) (hL : Lst w av g.ab 81 6 g.air.length (g.air.flatMap pkC)) {k : Nat} (hk : k < g.air.length) : ∃ b off cap cs pk pa pc, g.ab = some b ∧ av = .slice (some ⟨b, off, none⟩) g.air.length cap ∧ w.heap[b]? = some (row cs 81) ∧ g.air[k]? = some (pk, .slice pa pk.b.length pc) ∧ (pk, .slice pa pk.b.length pc) ∈ g.air ∧ Bts w (.slice pa pk.b.length pc) pk.b ∧ g.abs.fly.getD k pk0 = pk ∧ pk ∈ g.abs.fly ∧
    Cs cs (off + k * 6) 6 [.int .i64 (pk.fr : Nat), .int .i64 (pk.to : Nat), .bool pk.ack, .int .u64 (pk.seq : Nat), .int .u64 (pk.ep : Nat), .slice pa pk.b.length pc] ∧ g.air.length ≤ cap ∧ cap ≤ 9223372036854775807 ∧ off + cap * 6 ≤ cs.length ∧ Cs cs off (g.air.length * 6) (g.air.flatMap pkC) := by
  obtain ⟨b, off, cap, cs, hb', hav, f1, f2, f3, f4, f5⟩ := hL.pos (by omega)
  have hBp := hb _ (List.getElem_mem hk)
  have hsp := pk_split hk
  have hcell : Cs cs (off + k * 6) 6 (pkC g.air[k]) := by
    refine (f5.sub (k * 6) 6 (by omega)).cast rfl rfl ?_
    rw [hsp, List.append_assoc, List.drop_append_of_le_length (by rw [pk_len]; simp; omega), List.drop_of_length_le (by rw [pk_len]; simp; omega)]
    simp [pkC]
  obtain ⟨p, hp⟩ : ∃ p, g.air[k] = p := ⟨_, rfl⟩
  have hpm : p ∈ g.air := by rw [← hp]; exact List.getElem_mem _
  have hpg : g.abs.fly.getD k pk0 = p.1 := by rw [rabs_fly]; simp [hk, hp]
  have hpi : g.air[k]? = some p := by rw [List.getElem?_eq_getElem hk, hp]
  rw [hp] at hBp hcell
  obtain ⟨pk, pv⟩ := p
  obtain ⟨pa, pc, hpv⟩ := hBp.slice
  dsimp only at hpv
  subst hpv
  exact ⟨b, off, cap, cs, pk, pa, pc, hb', hav, f3, hpi, hpm, hBp, hpg, by rw [rabs_fly]; exact List.mem_map.2 ⟨_, hpm, rfl⟩, hcell, f1, f2, f4, f5⟩
theorem rtwice_any (z : World) (g : RG) (i : Int) (k : Nat) {rb : Nat} (hrb : g.rb = rb) (h : RN z g) (hok : g.abs.Ok k) : Fn env.P 33 [.pointer (some ⟨rb, 0, none⟩), .int .i64 i] z (ROp z g (g.abs.flE i) (g.abs.twice i)) := by
  subst hrb
  have hfl : g.air.length ≤ 4096 := by rw [← rfly_len]; exact hok.fly.1
  obtain ⟨tv, yv, xv, av, a1, a2, a3, a4, a5⟩ := h.net
  by_cases hr : 0 ≤ i ∧ i < g.air.length
  · obtain ⟨k, rfl⟩ : ∃ k : Nat, i = k := ⟨i.toNat, by omega⟩
    have hk : k < g.air.length := by omega
    have hin : g.abs.inF (k : Nat) = true := by simp only [Ns.inF, rfly_len]; exact decide_eq_true (by omega)
    obtain ⟨b, off, cap, cs, pk, pa, pc, hab, rfl, f3, hpi, hpm, hBp, hpg, hpf, hcell, _⟩ := air_cell h.airb a5 hk
    have H := ((Holds.start z []).add false f3 (by simp) (by simp)).add false a1 (by simpa using ne_of_ty a1 f3 (by decide)) (by simp)
    have HF := Try.func33; refine Fn.enter Try.func33 Try.ntmps33 rfl rfl rfl ?_
    refine Run.seq ?_
    (refine Run.region ?_; intro K hK)
    refine Ops.pure H (X.assign rfl) rfl rfl rfl ?_
    (refine Ops.nil (hK _ _ ?_); clear hK K)
    refine Run.seq ?_
    refine Run.seq ?_
    (refine Run.region ?_; intro K hK)
    refine Ops.pure H (X.move rfl) rfl rfl rfl ?_
    refine Ops.pure H (X.cmp rfl rfl rfl) rfl rfl rfl ?_
    refine Ops.pure H (X.move rfl) rfl rfl rfl ?_
    refine Ops.pure H (X.move rfl) rfl rfl rfl ?_
    refine Ops.pure H (X.move rfl) rfl rfl rfl ?_
    refine Ops.pure H (X.nilCheck rfl) rfl rfl rfl ?_
    refine Ops.pure H (X.fieldAddr rfl rfl rfl rfl rfl rfl) rfl rfl rfl ?_
    refine Ops.pure H (X.load1 rfl rfl rfl rfl Pick.head rfl) rfl rfl rfl ?_
    refine Ops.pure H (X.len_slice rfl rfl rfl) rfl rfl rfl ?_
    refine Ops.pure H (X.cmp rfl rfl rfl) rfl rfl rfl ?_
    refine Ops.pure H (X.pick_f rfl rfl) rfl rfl rfl ?_
    (refine Ops.nil (hK _ _ ?_); clear hK K)
    refine Run.cond_dec rfl (fun h15 => ?x0) (fun h15 => ?y0)
    case' y0 =>
      refine Run.skip ?_
      refine Run.seq ?_
      (refine Run.region ?_; intro K hK)
      refine Ops.pure H (X.move rfl) rfl rfl rfl ?_
      refine Ops.pure H (X.move rfl) rfl rfl rfl ?_
      refine Ops.pure H (X.nilCheck rfl) rfl rfl rfl ?_
      refine Ops.pure H (X.fieldAddr rfl rfl rfl rfl rfl rfl) rfl rfl rfl ?_
      refine Ops.pure H (X.load1 rfl rfl rfl rfl Pick.head rfl) rfl rfl rfl ?_
      refine Ops.pure H (X.move rfl) rfl rfl rfl ?_
      refine Ops.pure H (X.indexAddr rfl rfl (by omega) rfl rfl rfl rfl) rfl rfl rfl ?_
      refine Ops.pure H (X.loadN rfl rfl rfl (.tail .head) (by assumption)) rfl rfl rfl ?_
    case' x0 => exfalso; omega
    refine Ops.eff rfl (Y.call rfl rfl (by first | assumption | decide +kernel) rfl (rfly_any _ g pk (.slice pa pk.b.length pc) rfl (h.ext H.fr) (hBp.ext H.fr) (fun b hb => .inl (.inl ⟨_, hpm, hb⟩)) hfl) rfl ?_)
    rintro v w2 ⟨g', st, hab, _⟩
    replace st := st.pre h H.fr
    clear H
    have H := Holds.start w2 []
    (refine Ops.nil (hK _ _ ?_); clear hK K)
    refine Run.seq ?_
    (refine Run.region ?_; intro K hK)
    refine Ops.pure H (X.assign rfl) rfl rfl rfl ?_
    (refine Ops.nil (hK _ _ ?_); clear hK K)
    (first | refine Fn.ret1 HF rfl rfl ?_ | refine Fn.ret2 HF rfl rfl rfl ?_ | refine Fn.ret3 HF rfl rfl rfl rfl ?_ | refine Fn.ret0 HF rfl ?_ | refine Fn.fin0 HF rfl ?_ | refine Fn.retG (E := env) HF rfl H (by first | exact RVs.cellN rfl rfl rfl (by first | exact .head | exact .tail .head | exact .tail (.tail .head) | exact .tail (.tail (.tail .head)) | exact .tail (.tail (.tail (.tail .head))) | exact .tail (.tail (.tail (.tail (.tail .head)))) | exact .tail (.tail (.tail (.tail (.tail (.tail .head)))))) (by first | assumption | exact Cs.take rfl) RVs.nil | exact RVs.cellN rfl rfl rfl (by first | exact .head | exact .tail .head | exact .tail (.tail .head) | exact .tail (.tail (.tail .head)) | exact .tail (.tail (.tail (.tail .head))) | exact .tail (.tail (.tail (.tail (.tail .head)))) | exact .tail (.tail (.tail (.tail (.tail (.tail .head)))))) (by first | assumption | exact Cs.take rfl) (RVs.tmp rfl RVs.nil) | exact RVs.cellN rfl rfl rfl (by first | exact .head | exact .tail .head | exact .tail (.tail .head) | exact .tail (.tail (.tail .head)) | exact .tail (.tail (.tail (.tail .head))) | exact .tail (.tail (.tail (.tail (.tail .head)))) | exact .tail (.tail (.tail (.tail (.tail (.tail .head)))))) (by first | assumption | exact Cs.take rfl) (RVs.tmp rfl (RVs.tmp rfl RVs.nil))) rfl ?_)
    refine ⟨by simp [Ns.flE, hin], g', st.ext H.fr, ?_⟩
    rw [hab]
    unfold Ns.twice
    rw [if_pos hin, Int.toNat_natCast, hpg]
  · obtain ⟨fa, fc, rfl, _⟩ := a5.slice
    have hin : g.abs.inF i = false := by simp only [Ns.inF, rfly_len]; exact decide_eq_false hr
    have H := (Holds.start z []).add false a1 (by simp) (by simp)
    have HF := Try.func33; refine Fn.enter Try.func33 Try.ntmps33 rfl rfl rfl ?_
    by_cases h0 : i < 0
    · refine Run.seq ?_
      (refine Run.region ?_; intro K hK)
      refine Ops.pure H (X.assign rfl) rfl rfl rfl ?_
      (refine Ops.nil (hK _ _ ?_); clear hK K)
      refine Run.seq ?_
      refine Run.seq ?_
      (refine Run.region ?_; intro K hK)
      refine Ops.pure H (X.move rfl) rfl rfl rfl ?_
      refine Ops.pure H (X.cmp rfl rfl rfl) rfl rfl rfl ?_
      refine Ops.pure H (X.move rfl) rfl rfl rfl ?_
      refine Ops.split_dec rfl rfl (fun h8 => ?x1) (fun h8 => ?y1)
      case' y1 => exfalso; omega
      case' x1 =>
        refine Ops.pass rfl rfl rfl ?_
        refine Ops.pass rfl rfl rfl ?_
        refine Ops.pass rfl rfl rfl ?_
        refine Ops.pass rfl rfl rfl ?_
        refine Ops.pass rfl rfl rfl ?_
        refine Ops.pass rfl rfl rfl ?_
        refine Ops.pass rfl rfl rfl ?_
        refine Ops.pure H (X.pick_t rfl rfl) rfl rfl rfl ?_
        (refine Ops.nil (hK _ _ ?_); clear hK K)
        refine Run.cond_true rfl ?_
        refine Run.seq ?_
        (refine Run.region ?_; intro K hK)
        refine Ops.pure H (X.assign rfl) rfl rfl rfl ?_
        (refine Ops.nil (hK _ _ ?_); clear hK K)
      (first | refine Fn.ret1 HF rfl rfl ?_ | refine Fn.ret2 HF rfl rfl rfl ?_ | refine Fn.ret3 HF rfl rfl rfl rfl ?_ | refine Fn.ret0 HF rfl ?_ | refine Fn.fin0 HF rfl ?_ | refine Fn.retG (E := env) HF rfl H (by first | exact RVs.cellN rfl rfl rfl (by first | exact .head | exact .tail .head | exact .tail (.tail .head) | exact .tail (.tail (.tail .head)) | exact .tail (.tail (.tail (.tail .head))) | exact .tail (.tail (.tail (.tail (.tail .head)))) | exact .tail (.tail (.tail (.tail (.tail (.tail .head)))))) (by first | assumption | exact Cs.take rfl) RVs.nil | exact RVs.cellN rfl rfl rfl (by first | exact .head | exact .tail .head | exact .tail (.tail .head) | exact .tail (.tail (.tail .head)) | exact .tail (.tail (.tail (.tail .head))) | exact .tail (.tail (.tail (.tail (.tail .head)))) | exact .tail (.tail (.tail (.tail (.tail (.tail .head)))))) (by first | assumption | exact Cs.take rfl) (RVs.tmp rfl RVs.nil) | exact RVs.cellN rfl rfl rfl (by first | exact .head | exact .tail .head | exact .tail (.tail .head) | exact .tail (.tail (.tail .head)) | exact .tail (.tail (.tail (.tail .head))) | exact .tail (.tail (.tail (.tail (.tail .head)))) | exact .tail (.tail (.tail (.tail (.tail (.tail .head)))))) (by first | assumption | exact Cs.take rfl) (RVs.tmp rfl (RVs.tmp rfl RVs.nil))) rfl ?_)
      exact ⟨by simp [Ns.flE, hin], g, .rfl' h H.fr, by simp [Ns.twice, hin]⟩
    · refine Run.seq ?_
      (refine Run.region ?_; intro K hK)
      refine Ops.pure H (X.assign rfl) rfl rfl rfl ?_
      (refine Ops.nil (hK _ _ ?_); clear hK K)
      refine Run.seq ?_
      refine Run.seq ?_
      (refine Run.region ?_; intro K hK)
      refine Ops.pure H (X.move rfl) rfl rfl rfl ?_
      refine Ops.pure H (X.cmp rfl rfl rfl) rfl rfl rfl ?_
      refine Ops.pure H (X.move rfl) rfl rfl rfl ?_
      refine Ops.split_dec rfl rfl (fun h8 => ?x2) (fun h8 => ?y2)
      case' y2 =>
        refine Ops.pure H (X.move rfl) rfl rfl rfl ?_
        refine Ops.pure H (X.move rfl) rfl rfl rfl ?_
        refine Ops.pure H (X.nilCheck rfl) rfl rfl rfl ?_
        refine Ops.pure H (X.fieldAddr rfl rfl rfl rfl rfl rfl) rfl rfl rfl ?_
        refine Ops.pure H (X.load1 rfl rfl rfl rfl Pick.head rfl) rfl rfl rfl ?_
        refine Ops.pure H (X.len_slice rfl rfl rfl) rfl rfl rfl ?_
        refine Ops.pure H (X.cmp rfl rfl rfl) rfl rfl rfl ?_
        refine Ops.pure H (X.pick_f rfl rfl) rfl rfl rfl ?_
        (refine Ops.nil (hK _ _ ?_); clear hK K)
        refine Run.cond_dec rfl (fun h15 => ?x3) (fun h15 => ?y3)
        case' y3 => exfalso; omega
        case' x3 =>
          refine Run.seq ?_
          (refine Run.region ?_; intro K hK)
          refine Ops.pure H (X.assign rfl) rfl rfl rfl ?_
          (refine Ops.nil (hK _ _ ?_); clear hK K)
      case' x2 => exfalso; omega
      (first | refine Fn.ret1 HF rfl rfl ?_ | refine Fn.ret2 HF rfl rfl rfl ?_ | refine Fn.ret3 HF rfl rfl rfl rfl ?_ | refine Fn.ret0 HF rfl ?_ | refine Fn.fin0 HF rfl ?_ | refine Fn.retG (E := env) HF rfl H (by first | exact RVs.cellN rfl rfl rfl (by first | exact .head | exact .tail .head | exact .tail (.tail .head) | exact .tail (.tail (.tail .head)) | exact .tail (.tail (.tail (.tail .head))) | exact .tail (.tail (.tail (.tail (.tail .head)))) | exact .tail (.tail (.tail (.tail (.tail (.tail .head)))))) (by first | assumption | exact Cs.take rfl) RVs.nil | exact RVs.cellN rfl rfl rfl (by first | exact .head | exact .tail .head | exact .tail (.tail .head) | exact .tail (.tail (.tail .head)) | exact .tail (.tail (.tail (.tail .head))) | exact .tail (.tail (.tail (.tail (.tail .head)))) | exact .tail (.tail (.tail (.tail (.tail (.tail .head)))))) (by first | assumption | exact Cs.take rfl) (RVs.tmp rfl RVs.nil) | exact RVs.cellN rfl rfl rfl (by first | exact .head | exact .tail .head | exact .tail (.tail .head) | exact .tail (.tail (.tail .head)) | exact .tail (.tail (.tail (.tail .head))) | exact .tail (.tail (.tail (.tail (.tail .head)))) | exact .tail (.tail (.tail (.tail (.tail (.tail .head)))))) (by first | assumption | exact Cs.take rfl) (RVs.tmp rfl (RVs.tmp rfl RVs.nil))) rfl ?_)
      exact ⟨by simp [Ns.flE, hin], g, .rfl' h H.fr, by simp [Ns.twice, hin]⟩
end Go.Proofs.Ytpmihcefjdeonaa
