/- Walks of layer 6: a message's packet comes. -/
import Derived.Test.YtpmihcefjdeonaaN9
namespace Go.Proofs.Ytpmihcefjdeonaa
open Go
set_option maxRecDepth 20000
set_option maxHeartbeats 2000000
attribute [local irreducible] Run Ops Fn Draw Draw2 PureOp StepZ

theorem ms_len (l : List ((Nat × List Int) × Value)) : (l.flatMap msC).length = l.length * 2 := by
  induction l with
  | nil => rfl
  | cons p r ih => rw [List.flatMap_cons, List.length_append, ih]; simp [msC]; omega
theorem setB_abs (s : Ns) (i : Nat) : (s.setB i (s.box i)) = s := by
  unfold Ns.setB
  congr 1
  funext x
  split
  · subst x; rfl
  · rfl
theorem PStep.way1 {w g w' g'} (h : PStep w g w' g') {a : Nat × Nat} (ha : g'.abs = g.abs) {c : WG} (hc : g'.way a = some c) : g.abs.way a = ⟨c.ep, c.ss.map (·.1), c.told, c.came⟩ := by rw [← ha, abs_way, hc]; rfl
theorem lands_any (z : World) (g : PG) (p : Pk) (v : Value) (k : Nat) (h : PN z g) (hok : g.abs.Ok k) (hk : k ≤ 4398046511000) (hv : Bts z v p.b) (hl : p.b.length ≤ 65536) (hp : p.fr < g.n ∧ p.to < g.n) (hq : p.seq ≤ k) (hqe : p.ep ≤ k + 1) (hvI : ∀ b, blkV v = some b → ¬ PF g b) (hack : p.ack = false) : Fn env.P 49 [.pointer (some ⟨g.nb, 0, none⟩), .agg (pkC (p, v)).toArray] z fun _ w' =>
    ∃ g', PStep z g w' g' ∧ g'.abs = g.abs.lands p := by
  obtain ⟨va, vc, rfl⟩ := hv.slice
  have H := Holds.start z []
  unfold pkC
  simp only [hack]
  have HF := Try.func49; refine Fn.enter Try.func49 Try.ntmps49 rfl rfl rfl ?_
  refine Run.seq ?_
  (refine Run.region ?_; intro K hK)
  (refine Ops.eff rfl (Y.box rfl rfl rfl H ?_); intro b3 w H0 hb3; clear H; have H := H0; clear H0)
  (refine Ops.nil (hK _ _ ?_); clear hK K)
  refine Run.seq ?_
  refine Run.seq ?_
  (refine Run.region ?_; intro K hK)
  refine Ops.pure H (X.fieldAddr rfl rfl rfl rfl rfl rfl) rfl rfl rfl ?_
  refine Ops.pure H (X.load1 rfl rfl rfl rfl Pick.head rfl) rfl rfl rfl ?_
  (refine Ops.nil (hK _ _ ?_); clear hK K)
  refine Run.cond_false rfl ?_
  refine Run.skip ?_
  refine Run.seq ?_
  (refine Run.region ?_; intro K hK)
  refine Ops.pure H (X.move rfl) rfl rfl rfl ?_
  refine Ops.pure H (X.fieldAddr rfl rfl rfl rfl rfl rfl) rfl rfl rfl ?_
  refine Ops.pure H (X.load1 rfl rfl rfl rfl Pick.head rfl) rfl rfl rfl ?_
  refine Ops.pure H (X.fieldAddr rfl rfl rfl rfl rfl rfl) rfl rfl rfl ?_
  refine Ops.pure H (X.load1 rfl rfl rfl rfl Pick.head rfl) rfl rfl rfl ?_
  refine Ops.eff rfl (Y.call rfl rfl (by first | assumption | decide +kernel) rfl (way_any _ g p.fr p.to (h.ext H.fr) hp.1 hp.2) rfl ?_)
  rintro v1 w2 ⟨c, g1, rfl, st, hab, hc, hfl, _, hbx, _⟩
  have q3 := H.pick .head
  have hnp1 := st.nPF (lt_of_at q3) (h.npf hb3)
  have t3 := st.get q3 (h.npf hb3)
  have hv2 : Bts w2 (.slice va p.b.length vc) p.b := by
    obtain ⟨S, hf, hS⟩ := st.fr
    exact (hv.ext H.fr).keep hf (fun b hb hm => hvI b hb (hS b hm))
  replace st := st.pre h H.fr
  obtain ⟨sv, c1, c2⟩ := st.ok.wayr _ _ hc
  obtain ⟨sa, sc, rfl, _⟩ := c2.slice
  have hW := st.way1 hab hc
  have hb := hok.way (p.fr, p.to)
  rw [hW] at hb
  simp only [List.length_map] at hb
  have hne : c.wb ≠ b3 := fun e => by rw [e, t3] at c1; simp at c1
  clear H
  have H := ((Holds.start w2 [c.wb]).add false t3 (by simp) (by simp)).add true c1 (by simpa using hne) (by simp)
  by_cases he : p.ep = c.ep
  · by_cases hs : p.seq = c.came + 1
    · have hw1 : ((c.came : Nat) : Int) + 1 = ((c.came + 1 : Nat) : Int) := by omega
      refine Ops.pure H (X.assign rfl) rfl rfl rfl ?_
      (refine Ops.nil (hK _ _ ?_); clear hK K)
      refine Run.seq ?_
      refine Run.seq ?_
      (refine Run.draw H [] [0, 1, 2, 3, 4, 5, 6] ?_; clear H; intro K hK w H)
      refine Draw.take0 rfl (X.fieldAddr rfl rfl rfl rfl rfl rfl) rfl rfl rfl (by decide +kernel) ?_
      refine Draw.take rfl (X.load1 rfl rfl rfl rfl (.tail .head) rfl) rfl rfl rfl (by decide +kernel) ?_
      refine Draw.take0 rfl (X.move rfl) rfl rfl rfl (by decide +kernel) ?_
      refine Draw.take0 rfl (X.nilCheck rfl) rfl rfl rfl (by decide +kernel) ?_
      refine Draw.take0 rfl (X.fieldAddr rfl rfl rfl rfl rfl rfl) rfl rfl rfl (by decide +kernel) ?_
      refine Draw.take rfl (X.load1 rfl rfl rfl rfl Pick.head rfl) rfl rfl rfl (by decide +kernel) ?_
      refine Draw.take0 rfl (X.cmp rfl rfl rfl) rfl rfl rfl (by decide +kernel) ?_
      (refine Draw.done (by decide +kernel) (hK _ _ ?_); clear hK K)
      refine Run.cond_ndec rfl (fun h55 => ?x0) (fun h55 => ?y0)
      case' y0 =>
        refine Run.skip ?_
        refine Run.seq ?_
        refine Run.seq ?_
        (refine Run.draw H [] [0, 1, 2, 3, 4, 5, 6, 7, 8] ?_; clear H; intro K hK w H)
        refine Draw.take0 rfl (X.fieldAddr rfl rfl rfl rfl rfl rfl) rfl rfl rfl (by decide +kernel) ?_
        refine Draw.take rfl (X.load1 rfl rfl rfl rfl (.tail .head) rfl) rfl rfl rfl (by decide +kernel) ?_
        refine Draw.take0 rfl (X.move rfl) rfl rfl rfl (by decide +kernel) ?_
        refine Draw.take0 rfl (X.nilCheck rfl) rfl rfl rfl (by decide +kernel) ?_
        refine Draw.take0 rfl (X.fieldAddr rfl rfl rfl rfl rfl rfl) rfl rfl rfl (by decide +kernel) ?_
        refine Draw.take rfl (X.load1 rfl rfl rfl rfl Pick.head rfl) rfl rfl rfl (by decide +kernel) ?_
        refine Draw.take0 rfl (X.conv rfl rfl rfl rfl rfl (u64_in _ (by omega))) rfl rfl rfl (by decide +kernel) ?_
        refine Draw.take0 rfl (X.add_in rfl rfl (u64_in _ (by omega))) rfl rfl rfl (by decide +kernel) ?_
        refine Draw.take0 rfl (X.cmp rfl rfl rfl) rfl rfl rfl (by decide +kernel) ?_
        (refine Draw.done (by decide +kernel) (hK _ _ ?_); clear hK K)
        refine Run.cond_dec rfl (fun h64 => ?x1) (fun h64 => ?y1)
        case' y1 => exfalso; omega
        case' x1 =>
          refine Run.seq ?_
          (refine Run.region ?_; intro K hK)
          refine Ops.pure H (X.move rfl) rfl rfl rfl ?_
          refine Ops.pure H (X.nilCheck rfl) rfl rfl rfl ?_
          refine Ops.pure H (X.fieldAddr rfl rfl rfl rfl rfl rfl) rfl rfl rfl ?_
          refine Ops.pure H (X.load1 rfl rfl rfl rfl Pick.head rfl) rfl rfl rfl ?_
          refine Ops.pure H (X.succ rfl rfl (by omega)) rfl rfl rfl ?_
          refine Ops.pure H (X.nilCheck rfl) rfl rfl rfl ?_
          refine Ops.pure H (X.fieldAddr rfl rfl rfl rfl rfl rfl) rfl rfl rfl ?_
          (refine Ops.eff rfl (Y.store1 rfl rfl rfl rfl rfl rfl H Upd.head (by repeat (first | exact SetC.zero | apply SetC.succ)) ?_); intro w H0; clear H; have H := H0; clear H0)
          (refine Ops.nil (hK _ _ ?_); clear hK K)
      case' x0 => exfalso; omega
      have hT := H.fr
      have t3' := H.pick (.tail .head)
      have c1' := H.pick .head
      have st12 := (st.ok.setWay (c' := ⟨c.wb, c.sb, c.ep, c.ss, c.told, c.came + 1⟩) hc hT (fun b hb => .inl (by simpa using hb)) rfl (fun b hb => .inl hb) ⟨_, c1', c2.keep hT (fun b hb hm => by
        rw [hb] at c2
        obtain ⟨cs, hcs⟩ := c2.ty
        simp at hm
        subst hm
        exact ne_of_ty hcs c1 (by decide) rfl)⟩ (fun p hp => .inl hp))
      have hnp2 := st12.nPF (lt_of_at t3) hnp1
      have st2 := st.trans st12
      have hv3 := hv2.keepT hT (fun b hb => by simp at hb; subst hb; exact not5 c1 (by decide))
      have hab2 : PG.abs { g1 with way := updw g1.way (p.fr, p.to) ⟨c.wb, c.sb, c.ep, c.ss, c.told, c.came + 1⟩ } = g.abs.setW (p.fr, p.to) ⟨c.ep, c.ss.map (·.1), c.told, c.came + 1⟩ := by rw [abs_updw, hab]; rfl
      have hwy2 : updw g1.way (p.fr, p.to) ⟨c.wb, c.sb, c.ep, c.ss, c.told, c.came + 1⟩ (p.fr, p.to) = some ⟨c.wb, c.sb, c.ep, c.ss, c.told, c.came + 1⟩ := updw_self _ _ _
      have hbb2 : ∀ i, ({ g1 with way := updw g1.way (p.fr, p.to) ⟨c.wb, c.sb, c.ep, c.ss, c.told, c.came + 1⟩ } : PG).box i = g.box i := fun i => by rw [← hbx]
      have hnn : g1.n = g.n := st.n
      have hnb : g1.nb = g.nb := st.nb
      obtain ⟨g2, hg2⟩ : ∃ g2, g2 = ({ g1 with way := updw g1.way (p.fr, p.to) ⟨c.wb, c.sb, c.ep, c.ss, c.told, c.came + 1⟩ } : PG) := ⟨_, rfl⟩
      have hw2 : g2.way (p.fr, p.to) = some ⟨c.wb, c.sb, c.ep, c.ss, c.told, c.came + 1⟩ := by rw [hg2]; exact hwy2
      rw [← hg2] at st2 hab2 hbb2 hnp2
      have h2 := st2.ok
      obtain ⟨cu, cx, fv, a1, a2, a3, a4, a5, a6⟩ := h2.net
      obtain ⟨xs, x1, x2, x3⟩ := h2.boxr
      obtain ⟨bv, v1, v2⟩ := x3 p.to (by rw [st2.n]; exact hp.2)
      obtain ⟨ba, bc, rfl, _⟩ := v2.slice
      rw [st2.nb] at a1
      have hto : p.to < g2.n := by rw [st2.n]; exact hp.2
      have hblen : (g2.box p.to).length ≤ k := by have := (hok.box p.to).1; rw [abs_box, List.length_map] at this; rw [hbb2]; exact this
      have hcx : xs[0 + p.to * 1]? = some (.slice ba (g2.box p.to).length bc) := by rw [Nat.zero_add, Nat.mul_one]; exact v1
      have hbn : ∀ b, g2.bx p.to = some b → b ≠ g2.xb ∧ b ≠ g.nb ∧ b ≠ b3 ∧ ∀ cs, w.heap[b]? ≠ some (row cs 5) := fun b hb => by
        obtain ⟨cs, hcs⟩ := h2.tyBox hto hb
        exact ⟨ne_of_ty hcs x1 (by decide), ne_of_ty hcs a1 (by decide), ne_of_ty hcs t3' (by decide), not5 hcs (by decide)⟩
      clear H
      have H := ((Holds.start w [g2.xb]).add false t3' (by simp) (by simp)).add false a1 (by simpa using ne_of_ty a1 t3' (by decide)) (by simp)
      replace H := H.add true x1 (by simpa using ⟨ne_of_ty x1 a1 (by decide), ne_of_ty x1 t3' (by decide)⟩) (by simp)
      (refine Run.draw H [23] [0, 1, 2, 3, 4, 5, 6, 7, 8, 9, 10, 11, 12, 13, 14, 15, 16, 17, 18, 19, 20, 21, 22, 23] ?_; clear H; intro K hK w H)
      refine Draw.take0 rfl (X.move rfl) rfl rfl rfl (by decide +kernel) ?_
      refine Draw.take0 rfl (X.nilCheck rfl) rfl rfl rfl (by decide +kernel) ?_
      refine Draw.take0 rfl (X.fieldAddr rfl rfl rfl rfl rfl rfl) rfl rfl rfl (by decide +kernel) ?_
      refine Draw.take rfl (X.load1 rfl rfl rfl rfl (.tail .head) rfl) rfl rfl rfl (by decide +kernel) ?_
      refine Draw.take0 rfl (X.fieldAddr rfl rfl rfl rfl rfl rfl) rfl rfl rfl (by decide +kernel) ?_
      refine Draw.take rfl (X.load1 rfl rfl rfl rfl (.tail (.tail .head)) rfl) rfl rfl rfl (by decide +kernel) ?_
      refine Draw.take0 rfl (X.move rfl) rfl rfl rfl (by decide +kernel) ?_
      refine Draw.take0 rfl (X.nilCheck rfl) rfl rfl rfl (by decide +kernel) ?_
      refine Draw.take0 rfl (X.fieldAddr rfl rfl rfl rfl rfl rfl) rfl rfl rfl (by decide +kernel) ?_
      refine Draw.take rfl (X.load1 rfl rfl rfl rfl (.tail .head) rfl) rfl rfl rfl (by decide +kernel) ?_
      refine Draw.take0 rfl (X.fieldAddr rfl rfl rfl rfl rfl rfl) rfl rfl rfl (by decide +kernel) ?_
      refine Draw.take rfl (X.load1 rfl rfl rfl rfl (.tail (.tail .head)) rfl) rfl rfl rfl (by decide +kernel) ?_
      refine Draw.take0 rfl (X.indexAddr rfl rfl (by omega) rfl rfl rfl rfl) rfl rfl rfl (by decide +kernel) ?_
      refine Draw.take rfl (X.load1 rfl rfl rfl rfl Pick.head (by assumption)) rfl rfl rfl (by decide +kernel) ?_
      refine Draw.take0 rfl (X.fieldAddr rfl rfl rfl rfl rfl rfl) rfl rfl rfl (by decide +kernel) ?_
      refine Draw.take rfl (X.load1 rfl rfl rfl rfl (.tail (.tail .head)) rfl) rfl rfl rfl (by decide +kernel) ?_
      refine Draw.take0 rfl (X.fieldAddr rfl rfl rfl rfl rfl rfl) rfl rfl rfl (by decide +kernel) ?_
      refine Draw.take rfl (X.load1 rfl rfl rfl rfl (.tail (.tail .head)) rfl) rfl rfl rfl (by decide +kernel) ?_
      have hF0 := H.fr
      refine Draw.eff rfl rfl (by decide +kernel) (Y.call rfl rfl (by first | assumption | decide +kernel) rfl (bclone_any _ _ p.b (hv3.keepT H.fr (fun b hb => by simp at hb; subst hb; exact not5 x1 (by decide))).bys (by omega)) rfl ?_)
      rintro v4 w4 ⟨hB, hf4, hbk⟩
      replace H := H.ext hf4
      refine ⟨H.at_, ?_⟩
      obtain ⟨va4, vc4, rfl⟩ := hB.slice
      have hF4 := H.fr
      replace H := H.anew (S' := [g2.xb]) (G' := [⟨_, _, true⟩, ⟨_, _, false⟩, ⟨_, _, false⟩]) (by repeat constructor) (by simp)
      replace v2 := v2.keep hF4 (fun b hb hm => (hbn b hb).1 (by simpa using hm))
      have v2w := v2
      have x14 := H.pick .head
      have hltb : ∀ b, g2.bx p.to = some b → b < w4.heap.size := fun b hb => v2.lt hb
      refine Draw.take0 rfl (X.buildO rfl rfl rfl rfl rfl rfl) rfl rfl rfl (by decide +kernel) ?_
      (refine Draw.eff rfl rfl (by decide +kernel) (Y.buildSliceO rfl rfl rfl rfl rfl rfl rfl rfl H ?_); intro b92 w H0 hb92; clear H; have H := H0; clear H0; refine ⟨fun e he => H.at_ e (by simp only [List.mem_cons, List.not_mem_nil, or_false] at he ⊢; grind), ?_⟩)
      have hszp := H.fr.size
      refine Draw.eff rfl rfl (by decide +kernel) (Y.push (sz := 2) (news := msC ((p.fr, p.b), .slice va4 p.b.length vc4)) (v2.keep H.fr (fun b hb hm => (hbn b hb).1 (by simpa using hm))) rfl rfl rfl rfl rfl rfl H (fun b hb e he => ?_) (by omega) rfl (Src.row (m := 2) H .head (Cs.take rfl)) rfl rfl (by dsimp only; omega) (by omega) rfl ?_)
      · have h1 := hltb b hb
        obtain ⟨h2, h3, h4, _⟩ := hbn b hb
        simp at he
        rcases he with rfl | rfl | rfl | rfl <;> dsimp only <;> omega
      intro fb' foff fcap fcs w H hc1 hc2 hc3 hc4 hob
      refine ⟨fun e he => H.at_ e (by simp only [List.mem_cons, List.not_mem_nil, or_false] at he ⊢; grind), ?_⟩
      refine Draw.take0 rfl (X.indexAddr rfl rfl (by omega) rfl rfl rfl rfl) rfl rfl rfl (by decide +kernel) ?_
      (refine Draw.last rfl rfl (by decide +kernel) (Y.storeI rfl rfl rfl rfl rfl rfl H (.tail (.tail .head)) (by omega) ?_); intro w H0; clear H; have H := H0; clear H0)
      (refine Draw2.done (by decide +kernel) (hK _ _ ?_); clear hK K)
      have hT5 := Fr.trans (U := (g2.bx p.to).toList ++ [g2.xb]) hF4 H.fr (by simp) (fun x hx _ => by simpa using hx)
      have hS5 : ∀ b ∈ (g2.bx p.to).toList ++ [g2.xb], ∀ cs, w4.heap[b]? ≠ some (row cs 5) := by
        intro b hb
        simp at hb
        rcases hb with hb | rfl
        · rw [hb] at v2w
          obtain ⟨cs, hcs⟩ := v2w.ty
          exact not5 hcs (by decide)
        · exact not5 x14 (by decide)
      have hsz0 := hF0.size
      have hszF := hF4.size
      have hnew : ∀ b, blkV (.slice va4 p.b.length vc4) = some b → _ ≤ b := fun b hb => Nat.le_trans hsz0 (hbk b hb)
      have t35 := H.pick (.tail (.tail (.tail (.tail .head))))
      have st23 := (h2.setBox (i := p.to) (cs := xs) (v' := .slice (some ⟨fb', foff, none⟩) ((g2.box p.to).length + 1) fcap) (ob' := some fb') (ms' := g2.box p.to ++ [((p.fr, p.b), .slice va4 p.b.length vc4)]) hto hT5 (fun b hb => by simp at hb; exact hb.symm) x1 (by have := H.pick (.tail (.tail .head)); simpa using this)
        ⟨foff, fcap, fcs, by simp, by simpa using hc1, hc2, H.pick .head, hc3, hc4.cast rfl (by simp) (by simp)⟩ (fun b hb => by cases hb; exact hob.imp (fun e => e) (fun e => by omega))
        (fun q hq => by
          simp at hq
          rcases hq with hq | rfl
          · exact .inl hq
          · exact .inr ⟨hB.keepT H.fr hS5, hnew⟩)
        (fun i j q r b hq hr e e' => by
          rw [List.getElem?_append] at hq hr
          have hol : ∀ {q : (Nat × List Int) × Value} {i : Nat}, (g2.box p.to)[i]? = some q → blkV q.2 = some b → b < _ := fun hq e => h2.ltM ⟨p.to, _, hto, List.mem_of_getElem? hq, e⟩
          split at hq <;> split at hr
          · exact (h2.dm p.to p.to i j q r b hto hto hq hr e e').2
          · rw [List.getElem?_singleton] at hr
            split at hr
            · cases hr
              have h1 := hol hq e
              have h3 := hnew b e'
              omega
            · cases hr
          · rw [List.getElem?_singleton] at hq
            split at hq
            · cases hq
              have h1 := hol hr e'
              have h3 := hnew b e
              omega
            · cases hq
          · rw [List.getElem?_singleton] at hq hr
            split at hq <;> split at hr
            · omega
            · cases hr
            · cases hq
            · cases hq))
      have hnp3 := st23.nPF (lt_of_at t3') hnp2
      have st3 := st2.trans st23
      have hab3 : PG.abs { g2 with bx := updb g2.bx p.to (some fb'), box := updb g2.box p.to (g2.box p.to ++ [((p.fr, p.b), .slice va4 p.b.length vc4)]) } = g.abs.gets p := by
        rw [abs_updb, hab2]
        unfold Ns.gets
        rw [hW, if_pos hs, hbb2, List.map_append, abs_box]
        rfl
      have hw3 : ({ g2 with bx := updb g2.bx p.to (some fb'), box := updb g2.box p.to (g2.box p.to ++ [((p.fr, p.b), .slice va4 p.b.length vc4)]) } : PG).way (p.fr, p.to) = some ⟨c.wb, c.sb, c.ep, c.ss, c.told, c.came + 1⟩ := hw2
      generalize ({ g2 with bx := updb g2.bx p.to (some fb'), box := updb g2.box p.to (g2.box p.to ++ [((p.fr, p.b), .slice va4 p.b.length vc4)]) } : PG) = g3 at st3 hab3 hw3 hnp3
      obtain ⟨sv5, c5, _⟩ := st3.ok.wayr _ _ hw3
      dsimp only at c5
      have hfl3 : g3.fly.length ≤ 4096 := by
        rw [← fly_len, hab3]
        unfold Ns.gets
        have := hok.fly.1
        split <;> exact this
      have hcm : (g.abs.gets p).way (p.fr, p.to) = ⟨c.ep, c.ss.map (·.1), c.told, c.came + 1⟩ := by rw [← hab3, abs_way, hw3]; rfl
      clear H
      have H := ((Holds.start w []).add false t35 (by simp) (by simp)).add false c5 (by simpa using fun e => by rw [e, t35] at c5; simp at c5) (by simp)
      (refine Run.draw H [] [0, 1, 2, 3, 4, 5, 6, 7, 8, 9, 10, 11, 12, 13] ?_; clear H; intro K hK w H)
      refine Draw.take0 rfl (X.move rfl) rfl rfl rfl (by decide +kernel) ?_
      refine Draw.take0 rfl (X.fieldAddr rfl rfl rfl rfl rfl rfl) rfl rfl rfl (by decide +kernel) ?_
      refine Draw.take rfl (X.load1 rfl rfl rfl rfl (.tail .head) rfl) rfl rfl rfl (by decide +kernel) ?_
      refine Draw.take0 rfl (X.fieldAddr rfl rfl rfl rfl rfl rfl) rfl rfl rfl (by decide +kernel) ?_
      refine Draw.take rfl (X.load1 rfl rfl rfl rfl (.tail .head) rfl) rfl rfl rfl (by decide +kernel) ?_
      refine Draw.take0 rfl (X.move rfl) rfl rfl rfl (by decide +kernel) ?_
      refine Draw.take0 rfl (X.nilCheck rfl) rfl rfl rfl (by decide +kernel) ?_
      refine Draw.take0 rfl (X.fieldAddr rfl rfl rfl rfl rfl rfl) rfl rfl rfl (by decide +kernel) ?_
      refine Draw.take rfl (X.load1 rfl rfl rfl rfl Pick.head rfl) rfl rfl rfl (by decide +kernel) ?_
      refine Draw.take0 rfl (X.conv rfl rfl rfl rfl rfl (u64_in _ (by omega))) rfl rfl rfl (by decide +kernel) ?_
      refine Draw.take0 rfl (X.fieldAddr rfl rfl rfl rfl rfl rfl) rfl rfl rfl (by decide +kernel) ?_
      refine Draw.take rfl (X.load1 rfl rfl rfl rfl (.tail .head) rfl) rfl rfl rfl (by decide +kernel) ?_
      refine Draw.take0 rfl (X.buildO rfl rfl rfl rfl rfl rfl) rfl rfl rfl (by decide +kernel) ?_
      refine Draw.eff rfl rfl (by decide +kernel) (Y.call rfl rfl (by first | assumption | decide +kernel) rfl (flies_at _ g3 ⟨p.to, p.fr, true, c.came + 1, p.ep, []⟩ (.slice none 0 0) st3.nb (st3.ok.ext H.fr) Bts.nil (by simp) hfl3) rfl ?_)
      rintro v6 w6 ⟨g4, st4, hab4, _, _, _, hf6⟩
      refine ⟨fun e he => hf6.get (H.at_ e he) ?_, ?_⟩
      · simp at he
        intro hm
        simp at hm
        rcases he with rfl | rfl
        · rcases hm with e | e
          · have := rows_ne (st3.ok.tyFly e) ⟨_, c5⟩; omega
          · have := rows_ne st3.ok.tyNet ⟨_, by rw [← e]; exact c5⟩; omega
        · rcases hm with e | e
          · exact hnp3 (.inl (.inr (.inr (.inr (.inr (.inl e))))))
          · exact hnp3 (.inl (.inl e))
      replace st4 := (st3).trans (.pre st3.ok H.fr st4)
      clear H
      have H := Holds.start w6 []
      (refine Draw.done (by decide +kernel) (hK _ _ ?_); clear hK K)
      (first | refine Fn.ret1 HF rfl rfl ?_ | refine Fn.ret2 HF rfl rfl rfl ?_ | refine Fn.ret3 HF rfl rfl rfl rfl ?_ | refine Fn.ret0 HF rfl ?_ | refine Fn.fin0 HF rfl ?_ | refine Fn.retG (E := env) HF rfl H (by first | exact RVs.cellN rfl rfl rfl (by first | exact .head | exact .tail .head | exact .tail (.tail .head) | exact .tail (.tail (.tail .head)) | exact .tail (.tail (.tail (.tail .head))) | exact .tail (.tail (.tail (.tail (.tail .head)))) | exact .tail (.tail (.tail (.tail (.tail (.tail .head)))))) (by first | assumption | exact Cs.take rfl) RVs.nil | exact RVs.cellN rfl rfl rfl (by first | exact .head | exact .tail .head | exact .tail (.tail .head) | exact .tail (.tail (.tail .head)) | exact .tail (.tail (.tail (.tail .head))) | exact .tail (.tail (.tail (.tail (.tail .head)))) | exact .tail (.tail (.tail (.tail (.tail (.tail .head)))))) (by first | assumption | exact Cs.take rfl) (RVs.tmp rfl RVs.nil) | exact RVs.cellN rfl rfl rfl (by first | exact .head | exact .tail .head | exact .tail (.tail .head) | exact .tail (.tail (.tail .head)) | exact .tail (.tail (.tail (.tail .head))) | exact .tail (.tail (.tail (.tail (.tail .head)))) | exact .tail (.tail (.tail (.tail (.tail (.tail .head)))))) (by first | assumption | exact Cs.take rfl) (RVs.tmp rfl (RVs.tmp rfl RVs.nil))) rfl ?_)
      refine ⟨g4, st4.ext H.fr, ?_⟩
      rw [hab4]
      unfold Ns.lands
      rw [hW, if_pos he, hcm, hab3]
    · refine Ops.pure H (X.assign rfl) rfl rfl rfl ?_
      (refine Ops.nil (hK _ _ ?_); clear hK K)
      refine Run.seq ?_
      refine Run.seq ?_
      (refine Run.draw H [] [0, 1, 2, 3, 4, 5, 6] ?_; clear H; intro K hK w H)
      refine Draw.take0 rfl (X.fieldAddr rfl rfl rfl rfl rfl rfl) rfl rfl rfl (by decide +kernel) ?_
      refine Draw.take rfl (X.load1 rfl rfl rfl rfl (.tail .head) rfl) rfl rfl rfl (by decide +kernel) ?_
      refine Draw.take0 rfl (X.move rfl) rfl rfl rfl (by decide +kernel) ?_
      refine Draw.take0 rfl (X.nilCheck rfl) rfl rfl rfl (by decide +kernel) ?_
      refine Draw.take0 rfl (X.fieldAddr rfl rfl rfl rfl rfl rfl) rfl rfl rfl (by decide +kernel) ?_
      refine Draw.take rfl (X.load1 rfl rfl rfl rfl Pick.head rfl) rfl rfl rfl (by decide +kernel) ?_
      refine Draw.take0 rfl (X.cmp rfl rfl rfl) rfl rfl rfl (by decide +kernel) ?_
      (refine Draw.done (by decide +kernel) (hK _ _ ?_); clear hK K)
      refine Run.cond_ndec rfl (fun h55 => ?x2) (fun h55 => ?y2)
      case' y2 =>
        refine Run.skip ?_
        refine Run.seq ?_
        refine Run.seq ?_
        (refine Run.draw H [] [0, 1, 2, 3, 4, 5, 6, 7, 8] ?_; clear H; intro K hK w H)
        refine Draw.take0 rfl (X.fieldAddr rfl rfl rfl rfl rfl rfl) rfl rfl rfl (by decide +kernel) ?_
        refine Draw.take rfl (X.load1 rfl rfl rfl rfl (.tail .head) rfl) rfl rfl rfl (by decide +kernel) ?_
        refine Draw.take0 rfl (X.move rfl) rfl rfl rfl (by decide +kernel) ?_
        refine Draw.take0 rfl (X.nilCheck rfl) rfl rfl rfl (by decide +kernel) ?_
        refine Draw.take0 rfl (X.fieldAddr rfl rfl rfl rfl rfl rfl) rfl rfl rfl (by decide +kernel) ?_
        refine Draw.take rfl (X.load1 rfl rfl rfl rfl Pick.head rfl) rfl rfl rfl (by decide +kernel) ?_
        refine Draw.take0 rfl (X.conv rfl rfl rfl rfl rfl (u64_in _ (by omega))) rfl rfl rfl (by decide +kernel) ?_
        refine Draw.take0 rfl (X.add_in rfl rfl (u64_in _ (by omega))) rfl rfl rfl (by decide +kernel) ?_
        refine Draw.take0 rfl (X.cmp rfl rfl rfl) rfl rfl rfl (by decide +kernel) ?_
        (refine Draw.done (by decide +kernel) (hK _ _ ?_); clear hK K)
        refine Run.cond_dec rfl (fun h64 => ?x3) (fun h64 => ?y3)
        case' y3 =>
          refine Run.skip ?_
        case' x3 => exfalso; omega
      case' x2 => exfalso; omega
      have hd := H.fr.drop1 (by rw [c1]; exact H.pick .head)
      replace st := st.ext hd
      have t3' := hd.get t3 (by simp)
      have c1' := hd.get c1 (by simp)
      have hg : g.abs.gets p = g1.abs := by unfold Ns.gets; rw [hW, if_neg hs, hab]
      have hfl1 : g1.fly.length ≤ 4096 := by rw [← fly_len, hab]; exact hok.fly.1
      clear H
      have H := ((Holds.start w []).add false t3' (by simp) (by simp)).add false c1' (by simpa using hne) (by simp)
      (refine Run.draw H [] [0, 1, 2, 3, 4, 5, 6, 7, 8, 9, 10, 11, 12, 13] ?_; clear H; intro K hK w H)
      refine Draw.take0 rfl (X.move rfl) rfl rfl rfl (by decide +kernel) ?_
      refine Draw.take0 rfl (X.fieldAddr rfl rfl rfl rfl rfl rfl) rfl rfl rfl (by decide +kernel) ?_
      refine Draw.take rfl (X.load1 rfl rfl rfl rfl (.tail .head) rfl) rfl rfl rfl (by decide +kernel) ?_
      refine Draw.take0 rfl (X.fieldAddr rfl rfl rfl rfl rfl rfl) rfl rfl rfl (by decide +kernel) ?_
      refine Draw.take rfl (X.load1 rfl rfl rfl rfl (.tail .head) rfl) rfl rfl rfl (by decide +kernel) ?_
      refine Draw.take0 rfl (X.move rfl) rfl rfl rfl (by decide +kernel) ?_
      refine Draw.take0 rfl (X.nilCheck rfl) rfl rfl rfl (by decide +kernel) ?_
      refine Draw.take0 rfl (X.fieldAddr rfl rfl rfl rfl rfl rfl) rfl rfl rfl (by decide +kernel) ?_
      refine Draw.take rfl (X.load1 rfl rfl rfl rfl Pick.head rfl) rfl rfl rfl (by decide +kernel) ?_
      refine Draw.take0 rfl (X.conv rfl rfl rfl rfl rfl (u64_in _ (by omega))) rfl rfl rfl (by decide +kernel) ?_
      refine Draw.take0 rfl (X.fieldAddr rfl rfl rfl rfl rfl rfl) rfl rfl rfl (by decide +kernel) ?_
      refine Draw.take rfl (X.load1 rfl rfl rfl rfl (.tail .head) rfl) rfl rfl rfl (by decide +kernel) ?_
      refine Draw.take0 rfl (X.buildO rfl rfl rfl rfl rfl rfl) rfl rfl rfl (by decide +kernel) ?_
      refine Draw.eff rfl rfl (by decide +kernel) (Y.call rfl rfl (by first | assumption | decide +kernel) rfl (flies_at _ g1 ⟨p.to, p.fr, true, c.came, p.ep, []⟩ (.slice none 0 0) st.nb (st.ok.ext H.fr) Bts.nil (by simp) hfl1) rfl ?_)
      rintro v6 w6 ⟨g4, st4, hab4, _, _, _, hf6⟩
      refine ⟨fun e he => hf6.get (H.at_ e he) ?_, ?_⟩
      · simp at he
        intro hm
        simp at hm
        rcases he with rfl | rfl
        · rcases hm with e | e
          · have := rows_ne (st.ok.tyFly e) (st.ok.tyWay hc); omega
          · have := rows_ne st.ok.tyNet (by rw [← e]; exact st.ok.tyWay hc); omega
        · rcases hm with e | e
          · exact hnp1 (.inl (.inr (.inr (.inr (.inr (.inl e))))))
          · exact hnp1 (.inl (.inl e))
      replace st4 := (st).trans (.pre st.ok H.fr st4)
      clear H
      have H := Holds.start w6 []
      (refine Draw.done (by decide +kernel) (hK _ _ ?_); clear hK K)
      (first | refine Fn.ret1 HF rfl rfl ?_ | refine Fn.ret2 HF rfl rfl rfl ?_ | refine Fn.ret3 HF rfl rfl rfl rfl ?_ | refine Fn.ret0 HF rfl ?_ | refine Fn.fin0 HF rfl ?_ | refine Fn.retG (E := env) HF rfl H (by first | exact RVs.cellN rfl rfl rfl (by first | exact .head | exact .tail .head | exact .tail (.tail .head) | exact .tail (.tail (.tail .head)) | exact .tail (.tail (.tail (.tail .head))) | exact .tail (.tail (.tail (.tail (.tail .head)))) | exact .tail (.tail (.tail (.tail (.tail (.tail .head)))))) (by first | assumption | exact Cs.take rfl) RVs.nil | exact RVs.cellN rfl rfl rfl (by first | exact .head | exact .tail .head | exact .tail (.tail .head) | exact .tail (.tail (.tail .head)) | exact .tail (.tail (.tail (.tail .head))) | exact .tail (.tail (.tail (.tail (.tail .head)))) | exact .tail (.tail (.tail (.tail (.tail (.tail .head)))))) (by first | assumption | exact Cs.take rfl) (RVs.tmp rfl RVs.nil) | exact RVs.cellN rfl rfl rfl (by first | exact .head | exact .tail .head | exact .tail (.tail .head) | exact .tail (.tail (.tail .head)) | exact .tail (.tail (.tail (.tail .head))) | exact .tail (.tail (.tail (.tail (.tail .head)))) | exact .tail (.tail (.tail (.tail (.tail (.tail .head)))))) (by first | assumption | exact Cs.take rfl) (RVs.tmp rfl (RVs.tmp rfl RVs.nil))) rfl ?_)
      refine ⟨g4, st4.ext H.fr, ?_⟩
      rw [hab4]
      unfold Ns.lands
      rw [hW, if_pos he, hg, hab, hW]
  · refine Ops.pure H (X.assign rfl) rfl rfl rfl ?_
    (refine Ops.nil (hK _ _ ?_); clear hK K)
    refine Run.seq ?_
    refine Run.seq ?_
    (refine Run.draw H [] [0, 1, 2, 3, 4, 5, 6] ?_; clear H; intro K hK w H)
    refine Draw.take0 rfl (X.fieldAddr rfl rfl rfl rfl rfl rfl) rfl rfl rfl (by decide +kernel) ?_
    refine Draw.take rfl (X.load1 rfl rfl rfl rfl (.tail .head) rfl) rfl rfl rfl (by decide +kernel) ?_
    refine Draw.take0 rfl (X.move rfl) rfl rfl rfl (by decide +kernel) ?_
    refine Draw.take0 rfl (X.nilCheck rfl) rfl rfl rfl (by decide +kernel) ?_
    refine Draw.take0 rfl (X.fieldAddr rfl rfl rfl rfl rfl rfl) rfl rfl rfl (by decide +kernel) ?_
    refine Draw.take rfl (X.load1 rfl rfl rfl rfl Pick.head rfl) rfl rfl rfl (by decide +kernel) ?_
    refine Draw.take0 rfl (X.cmp rfl rfl rfl) rfl rfl rfl (by decide +kernel) ?_
    (refine Draw.done (by decide +kernel) (hK _ _ ?_); clear hK K)
    refine Run.cond_ndec rfl (fun h55 => ?x4) (fun h55 => ?y4)
    case' y4 => exfalso; omega
    (first | refine Fn.ret1 HF rfl rfl ?_ | refine Fn.ret2 HF rfl rfl rfl ?_ | refine Fn.ret3 HF rfl rfl rfl rfl ?_ | refine Fn.ret0 HF rfl ?_ | refine Fn.fin0 HF rfl ?_ | refine Fn.retG (E := env) HF rfl H (by first | exact RVs.cellN rfl rfl rfl (by first | exact .head | exact .tail .head | exact .tail (.tail .head) | exact .tail (.tail (.tail .head)) | exact .tail (.tail (.tail (.tail .head))) | exact .tail (.tail (.tail (.tail (.tail .head)))) | exact .tail (.tail (.tail (.tail (.tail (.tail .head)))))) (by first | assumption | exact Cs.take rfl) RVs.nil | exact RVs.cellN rfl rfl rfl (by first | exact .head | exact .tail .head | exact .tail (.tail .head) | exact .tail (.tail (.tail .head)) | exact .tail (.tail (.tail (.tail .head))) | exact .tail (.tail (.tail (.tail (.tail .head)))) | exact .tail (.tail (.tail (.tail (.tail (.tail .head)))))) (by first | assumption | exact Cs.take rfl) (RVs.tmp rfl RVs.nil) | exact RVs.cellN rfl rfl rfl (by first | exact .head | exact .tail .head | exact .tail (.tail .head) | exact .tail (.tail (.tail .head)) | exact .tail (.tail (.tail (.tail .head))) | exact .tail (.tail (.tail (.tail (.tail .head)))) | exact .tail (.tail (.tail (.tail (.tail (.tail .head)))))) (by first | assumption | exact Cs.take rfl) (RVs.tmp rfl (RVs.tmp rfl RVs.nil))) rfl ?_)
    refine ⟨_, st.ext (H.fr.drop1 (by rw [c1]; exact H.pick .head)), ?_⟩
    rw [hab]
    unfold Ns.lands
    rw [hW, if_neg he]
theorem comes_any (z : World) (g : PG) (p : Pk) (v : Value) (k : Nat) {nb : Nat} (hnb : g.nb = nb) (h : PN z g) (hok : g.abs.Ok k) (hk : k ≤ 4398046511000) (hv : Bts z v p.b) (hl : p.b.length ≤ 65536) (hp : p.fr < g.n ∧ p.to < g.n) (hq : p.seq ≤ k) (hqe : p.ep ≤ k + 1) (hvI : ∀ b, blkV v = some b → ¬ PF g b) : Fn env.P 49 [.pointer (some ⟨nb, 0, none⟩), .agg (pkC (p, v)).toArray] z fun _ w' =>
    ∃ g', PStep z g w' g' ∧ g'.abs = g.abs.comes p := by
  subst hnb
  unfold Ns.comes
  cases ha : p.ack with
  | true => simpa using hears_any z g p v k h hok hk hv hp hq ha
  | false => simpa using lands_any z g p v k h hok hk hv hl hp hq hqe hvI ha
end Go.Proofs.Ytpmihcefjdeonaa
