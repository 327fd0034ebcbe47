/- Walks of layer 6: the document's Deliver. -/
import Derived.Test.YtpmihcefjdeonaaQ7
namespace Go.Proofs.Ytpmihcefjdeonaa
open Go
set_option maxRecDepth 20000
set_option maxHeartbeats 2000000
attribute [local irreducible] Run Ops Fn Draw Draw2 PureOp StepZ

theorem setW_self (s : Ns) (a : Nat × Nat) : s.setW a (s.way a) = s := by
  unfold Ns.setW
  congr 1
  funext x
  by_cases h : x = a
  · rw [if_pos h, h]
  · rw [if_neg h]
theorem RN.setBoxX (X : Nat → Prop) {w w' : World} {g : RG} {i off cap : Nat} {cs : List Value} {v' : Value} {ob' : Option Nat} {ms' : List ((Nat × List Int) × Value)} (h : RN w g) (hi : i < g.n) (hf : Fr w w' [g.xb]) (hv : ∃ tv yv av, w.heap[g.rb]? = some (row [tv, yv, .slice (some ⟨g.xb, off, none⟩) g.n cap, av] 69)) (hc : w.heap[g.xb]? = some (row cs 72)) (hc' : w'.heap[g.xb]? = some (row (putC cs (off + i * 1) [v']) 72))
    (hL : Lst w' v' ob' 52 2 ms'.length (ms'.flatMap msC)) (hbn : ∀ p ∈ ms', Bts w' p.2 p.1.2 ∧ ∀ b, blkV p.2 = some b → RB g b ∨ w.heap.size ≤ b ∨ X b) (ho : ∀ b, ob' = some b → g.bx i = some b ∨ w.heap.size ≤ b) : RN w' { g with bv := updb g.bv i v', bx := updb g.bx i ob', box := updb g.box i ms' } ∧ (∃ S, Fr w w' S ∧ ∀ b ∈ S, RS g b) ∧ (∀ b, RD { g with bv := updb g.bv i v', bx := updb g.bx i ob', box := updb g.box i ms' } b → RD g b ∨ w.heap.size ≤ b ∨ X b) := by
  have hk : KT [72] w w' := KT.of hf (fun b hb => by simp at hb; subst hb; exact ⟨cs, 72, by simp, hc⟩)
  obtain ⟨tv, yv, xv, av, a1, a2, a3, a4, a5⟩ := h.net
  obtain ⟨tv0, yv0, av0, hv⟩ := hv
  rw [a1] at hv
  simp at hv
  obtain ⟨rfl, rfl, rfl, rfl⟩ := hv
  obtain ⟨off', cap', cs', e1, e2, e3, e4, e5, e6⟩ := a4
  cases e1
  rw [hc] at e4
  simp at e4
  subst e4
  refine ⟨⟨⟨_, _, _, _, hk.row _ _ _ (by simp) a1, a2.kt hk (by simp), a3.kt hk (by simp), ⟨off, cap, _, rfl, e2, e3, hc', by rw [putC_length]; exact e5, (e6.setAt (fun _ => rfl) hi rfl (by omega)).cast rfl rfl (flat_congr fun q hq => ?_)⟩, a5.kt hk (by simp)⟩, fun i hi => (h.rowr i hi).kt hk (by simp), fun q hq => ?_, fun i j hi hj => (h.sent i j hi hj).kt hk (by simp), fun p hp => (h.airb p hp).kt hk (by simp), fun q hq p hp => ?_, fun i j hi hj p hp => (h.sentb i j hi hj p hp).kt hk (by simp), h.n64, h.dr⟩,
    ⟨_, hf, fun b hb => by simp at hb; exact .inr (.inr (.inr (.inl hb)))⟩, fun b hb => ?_⟩
  · by_cases e : q = i
    · subst e; simp [updb_self]
    · simp [updb_ne e]
  · show Lst w' (updb g.bv i v' q) (updb g.bx i ob' q) 52 2 (updb g.box i ms' q).length ((updb g.box i ms' q).flatMap msC)
    by_cases e : q = i
    · subst e
      rw [updb_self, updb_self, updb_self]
      exact hL
    · rw [updb_ne e, updb_ne e, updb_ne e]
      exact (h.box q hq).kt hk (by simp)
  · replace hp : p ∈ updb g.box i ms' q := hp
    by_cases e : q = i
    · subst e
      rw [updb_self] at hp
      exact (hbn p hp).1
    · rw [updb_ne e] at hp
      exact (h.boxb q hq p hp).kt hk (by simp)
  · rcases hb with (e | e | e | e | e | ⟨q, hq, e | e⟩ | e) | (e | ⟨q, p, hq, hp, e⟩ | e)
    · exact .inl (.inl (.inl e))
    · exact .inl (.inl (.inr (.inl e)))
    · exact .inl (.inl (.inr (.inr (.inl e))))
    · exact .inl (.inl (.inr (.inr (.inr (.inl e)))))
    · exact .inl (.inl (.inr (.inr (.inr (.inr (.inl e))))))
    · exact .inl (.inl (.inr (.inr (.inr (.inr (.inr (.inl ⟨q, hq, .inl e⟩)))))))
    · replace e : updb g.bx i ob' q = some b := e
      by_cases hqi : q = i
      · subst hqi
        rw [updb_self] at e
        rcases ho b e with e | e
        · exact .inl (.inl (.inr (.inr (.inr (.inr (.inr (.inl ⟨q, hq, .inr e⟩)))))))
        · exact .inr (.inl e)
      · rw [updb_ne hqi] at e
        exact .inl (.inl (.inr (.inr (.inr (.inr (.inr (.inl ⟨q, hq, .inr e⟩)))))))
    · exact .inl (.inl (.inr (.inr (.inr (.inr (.inr (.inr e)))))))
    · exact .inl (.inr (.inl e))
    · replace hp : p ∈ updb g.box i ms' q := hp
      by_cases hqi : q = i
      · subst hqi
        rw [updb_self] at hp
        rcases (hbn p hp).2 b e with h1 | h1
        · exact .inl (.inr h1)
        · exact .inr h1
      · rw [updb_ne hqi] at hp
        exact .inl (.inr (.inr (.inl ⟨q, p, hq, hp, e⟩)))
    · exact .inl (.inr (.inr (.inr e)))
theorem RStep.transX {X : Nat → Prop} {w w1 w2 : World} {g g1 g2 : RG} (h : RStep w g w1 g1) (ok : RN w2 g2) (fr : ∃ S, Fr w1 w2 S ∧ ∀ b ∈ S, RS g1 b) (own : ∀ b, RD g2 b → RD g1 b ∨ w1.heap.size ≤ b ∨ X b) (rb : g2.rb = g1.rb) (n : g2.n = g1.n) (hX : ∀ b, X b → RD g b ∨ w.heap.size ≤ b) : RStep w g w2 g2 := by
  obtain ⟨S, hS, hS'⟩ := h.fr
  obtain ⟨U, hU, hU'⟩ := fr
  have hsz := hS.size
  refine ⟨ok, ⟨S ++ U.filter (· < w.heap.size), hS.trans hU (fun x hx => List.mem_append_left _ hx) (fun x hx hl => List.mem_append_right _ (List.mem_filter.2 ⟨hx, by simpa using hl⟩)), fun b hb => ?_⟩, fun b hb => ?_, rb.trans h.rb, n.trans h.n, h.ok0⟩
  · rcases List.mem_append.1 hb with hb | hb
    · exact hS' b hb
    · obtain ⟨h1, h2⟩ := List.mem_filter.1 hb
      rcases h.ownS (hU' b h1) with h3 | h3
      · exact h3
      · simp at h2; omega
  · rcases own b hb with h1 | h1 | h1
    · exact h.own b h1
    · exact .inr (by omega)
    · exact hX b h1
theorem rdeliver_any (z : World) (g : RG) (i : Int) (k : Nat) {rb : Nat} (hrb : g.rb = rb) (h : RN z g) (hok : g.abs.Ok k) (hk : k ≤ 4398046511000) : Fn env.P 29 [.pointer (some ⟨rb, 0, none⟩), .int .i64 i] z (ROp z g (g.abs.flE i) (g.abs.deliver i)) := by
  subst hrb
  have hfl : g.air.length ≤ 4096 := by rw [← rfly_len]; exact hok.fly.1
  have H := Holds.start z []
  have HF := Try.func29; refine Fn.enter Try.func29 Try.ntmps29 rfl rfl rfl ?_
  refine Run.seq ?_
  (refine Run.region ?_; intro K hK)
  refine Ops.pure H (X.assign rfl) rfl rfl rfl ?_
  (refine Ops.nil (hK _ _ ?_); clear hK K)
  refine Run.seq ?_
  (refine Run.region ?_; intro K hK)
  refine Ops.pure H (X.move rfl) rfl rfl rfl ?_
  refine Ops.pure H (X.move rfl) rfl rfl rfl ?_
  refine Ops.eff rfl (Y.call rfl rfl (by first | assumption | decide +kernel) rfl (rtake_any _ g i rfl (h.ext H.fr) hfl) rfl ?_)
  rintro v w2 (⟨hno, rfl, hf⟩ | ⟨j, pk, pa, pc, g', rfl, hj, hpg, hpm, rfl, st, hab, hB, hBI⟩)
  · replace H := H.ext hf
    unfold pkC pk0
    have hin : g.abs.inF i = false := by simp only [Ns.inF, rfly_len]; exact decide_eq_false hno
    refine Ops.pure H (X.move rfl) rfl rfl rfl ?_
    refine Ops.pure H (X.extract rfl rfl) rfl rfl rfl ?_
    refine Ops.pure H (X.extract rfl rfl) rfl rfl rfl ?_
    (refine Ops.eff rfl (Y.alloc rfl rfl rfl H ?_); intro b5 w H0 hb5; clear H; have H := H0; clear H0)
    (refine Ops.eff rfl (Y.storeO rfl rfl rfl rfl rfl rfl H Upd.head rfl ?_); intro w H0; clear H; have H := H0; clear H0)
    refine Ops.pure H (X.assign rfl) rfl rfl rfl ?_
    (refine Ops.nil (hK _ _ ?_); clear hK K)
    refine Run.seq ?_
    refine Run.seq ?_
    (refine Run.region ?_; intro K hK)
    refine Ops.pure H (X.move rfl) rfl rfl rfl ?_
    refine Ops.pure H (X.cmp rfl rfl rfl) rfl rfl rfl ?_
    (refine Ops.nil (hK _ _ ?_); clear hK K)
    refine Run.cond_true rfl ?_
    refine Run.seq ?_
    (refine Run.region ?_; intro K hK)
    refine Ops.pure H (X.move rfl) rfl rfl rfl ?_
    refine Ops.pure H (X.assign rfl) rfl rfl rfl ?_
    (refine Ops.nil (hK _ _ ?_); clear hK K)
    (first | refine Fn.ret1 HF rfl rfl ?_ | refine Fn.ret2 HF rfl rfl rfl ?_ | refine Fn.ret3 HF rfl rfl rfl rfl ?_ | refine Fn.ret0 HF rfl ?_ | refine Fn.fin0 HF rfl ?_ | refine Fn.retG (E := env) HF rfl H (by first | exact RVs.cellN rfl rfl rfl (by first | exact .head | exact .tail .head | exact .tail (.tail .head) | exact .tail (.tail (.tail .head)) | exact .tail (.tail (.tail (.tail .head))) | exact .tail (.tail (.tail (.tail (.tail .head)))) | exact .tail (.tail (.tail (.tail (.tail (.tail .head)))))) (by first | assumption | exact Cs.take rfl) RVs.nil | exact RVs.cellN rfl rfl rfl (by first | exact .head | exact .tail .head | exact .tail (.tail .head) | exact .tail (.tail (.tail .head)) | exact .tail (.tail (.tail (.tail .head))) | exact .tail (.tail (.tail (.tail (.tail .head)))) | exact .tail (.tail (.tail (.tail (.tail (.tail .head)))))) (by first | assumption | exact Cs.take rfl) (RVs.tmp rfl RVs.nil) | exact RVs.cellN rfl rfl rfl (by first | exact .head | exact .tail .head | exact .tail (.tail .head) | exact .tail (.tail (.tail .head)) | exact .tail (.tail (.tail (.tail .head))) | exact .tail (.tail (.tail (.tail (.tail .head)))) | exact .tail (.tail (.tail (.tail (.tail (.tail .head)))))) (by first | assumption | exact Cs.take rfl) (RVs.tmp rfl (RVs.tmp rfl RVs.nil))) rfl ?_)
    exact ⟨by simp [Ns.flE, hin], g, .rfl' h H.fr, by simp [Ns.deliver, hin]⟩
  · replace st := st.pre h H.fr
    have hin : g.abs.inF (j : Nat) = true := by simp only [Ns.inF, rfly_len]; exact decide_eq_true (by omega)
    obtain ⟨o1, o2, o3, o4, o5⟩ := hok.fly.2 pk hpm
    have hlo : g'.abs = g.abs.lose (j : Nat) := by rw [hab]; simp [Ns.lose, hin]
    have hok' : g'.abs.Ok k := by rw [hlo]; exact hok.lose _
    have hE : g.abs.flE (j : Nat) = 0 := by simp [Ns.flE, hin]
    have hD : g.abs.deliver (j : Nat) = if g'.abs.up pk.to then g'.abs.comes pk else g'.abs := by
      unfold Ns.deliver
      rw [if_pos hin, Int.toNat_natCast, hpg, hlo]
      unfold Ns.lose
      rw [if_pos hin]
    clear hlo hab hpg hin
    have hR := st.ok
    obtain ⟨tv, yv, xv, av, a1, ⟨toff, tcap, ts, rfl, t2, t3, t4, t5, t6⟩, a3, a4, a5⟩ := hR.net
    replace o1 : pk.fr < g'.n := by rw [st.n]; exact o1
    replace o2 : pk.to < g'.n := by rw [st.n]; exact o2
    have htc : ts[toff + pk.to * 1]? = some (.bool (g'.up pk.to)) := (Cs.flat (sz := 1) (f := fun i => [.bool (g'.up i)]) (fun _ => rfl) t6 o2).get 0 _ rfl
    have ntr : g'.tb ≠ g'.rb := ne_of_ty t4 a1 (by decide)
    have e1 := st.rb
    have e2 := st.n
    rw [← e1]
    unfold pkC
    clear H
    have H := ((Holds.start w2 []).add false t4 (by simp) (by simp)).add false a1 (by simpa using ntr.symm) (by simp)
    cases hu : g'.up pk.to with
    | false =>
      rw [hu] at htc
      refine Ops.pure H (X.move rfl) rfl rfl rfl ?_
      refine Ops.pure H (X.extract rfl rfl) rfl rfl rfl ?_
      refine Ops.pure H (X.extract rfl rfl) rfl rfl rfl ?_
      (refine Ops.eff rfl (Y.alloc rfl rfl rfl H ?_); intro b5 w H0 hb5; clear H; have H := H0; clear H0)
      (refine Ops.eff rfl (Y.storeO rfl rfl rfl rfl rfl rfl H Upd.head rfl ?_); intro w H0; clear H; have H := H0; clear H0)
      refine Ops.pure H (X.assign rfl) rfl rfl rfl ?_
      (refine Ops.nil (hK _ _ ?_); clear hK K)
      refine Run.seq ?_
      refine Run.seq ?_
      (refine Run.region ?_; intro K hK)
      refine Ops.pure H (X.move rfl) rfl rfl rfl ?_
      refine Ops.pure H (X.cmp rfl rfl rfl) rfl rfl rfl ?_
      (refine Ops.nil (hK _ _ ?_); clear hK K)
      refine Run.cond_false rfl ?_
      refine Run.skip ?_
      refine Run.seq ?_
      refine Run.seq ?_
      (refine Run.draw H [] [0, 1, 2, 3, 4, 5, 6, 7, 8] ?_; clear H; intro K hK w H)
      refine Draw.take0 rfl (X.move rfl) rfl rfl rfl (by decide +kernel) ?_
      refine Draw.take0 rfl (X.nilCheck rfl) rfl rfl rfl (by decide +kernel) ?_
      refine Draw.take0 rfl (X.fieldAddr rfl rfl rfl rfl rfl rfl) rfl rfl rfl (by decide +kernel) ?_
      refine Draw.take rfl (X.load1 rfl rfl rfl rfl (.tail .head) rfl) rfl rfl rfl (by decide +kernel) ?_
      refine Draw.take0 rfl (X.fieldAddr rfl rfl rfl rfl rfl rfl) rfl rfl rfl (by decide +kernel) ?_
      refine Draw.take rfl (X.load1 rfl rfl rfl rfl Pick.head rfl) rfl rfl rfl (by decide +kernel) ?_
      refine Draw.take0 rfl (X.indexAddr rfl rfl (by omega) rfl rfl rfl rfl) rfl rfl rfl (by decide +kernel) ?_
      refine Draw.take rfl (X.load1 rfl rfl rfl rfl (.tail (.tail .head)) (by assumption)) rfl rfl rfl (by decide +kernel) ?_
      refine Draw.take0 rfl (X.not rfl) rfl rfl rfl (by decide +kernel) ?_
      (refine Draw.done (by decide +kernel) (hK _ _ ?_); clear hK K)
      refine Run.cond_true rfl ?_
      refine Run.seq ?_
      (refine Run.region ?_; intro K hK)
      refine Ops.pure H (X.assign rfl) rfl rfl rfl ?_
      (refine Ops.nil (hK _ _ ?_); clear hK K)
      (first | refine Fn.ret1 HF rfl rfl ?_ | refine Fn.ret2 HF rfl rfl rfl ?_ | refine Fn.ret3 HF rfl rfl rfl rfl ?_ | refine Fn.ret0 HF rfl ?_ | refine Fn.fin0 HF rfl ?_ | refine Fn.retG (E := env) HF rfl H (by first | exact RVs.cellN rfl rfl rfl (by first | exact .head | exact .tail .head | exact .tail (.tail .head) | exact .tail (.tail (.tail .head)) | exact .tail (.tail (.tail (.tail .head))) | exact .tail (.tail (.tail (.tail (.tail .head)))) | exact .tail (.tail (.tail (.tail (.tail (.tail .head)))))) (by first | assumption | exact Cs.take rfl) RVs.nil | exact RVs.cellN rfl rfl rfl (by first | exact .head | exact .tail .head | exact .tail (.tail .head) | exact .tail (.tail (.tail .head)) | exact .tail (.tail (.tail (.tail .head))) | exact .tail (.tail (.tail (.tail (.tail .head)))) | exact .tail (.tail (.tail (.tail (.tail (.tail .head)))))) (by first | assumption | exact Cs.take rfl) (RVs.tmp rfl RVs.nil) | exact RVs.cellN rfl rfl rfl (by first | exact .head | exact .tail .head | exact .tail (.tail .head) | exact .tail (.tail (.tail .head)) | exact .tail (.tail (.tail (.tail .head))) | exact .tail (.tail (.tail (.tail (.tail .head)))) | exact .tail (.tail (.tail (.tail (.tail (.tail .head)))))) (by first | assumption | exact Cs.take rfl) (RVs.tmp rfl (RVs.tmp rfl RVs.nil))) rfl ?_)
      exact ⟨by rw [hE], g', st.ext H.fr, by rw [hD, rabs_up, hu, if_neg (by simp)]⟩
    | true =>
    rw [hu] at htc
    rw [rabs_up, hu, if_pos rfl] at hD
    cases hack : pk.ack with
    | true =>
      obtain ⟨tv', yoff, ycap, ycs, xv', av', roff, rcap, rcs, sa, sc, b1, y1, y2, hrv, r1, r2, hsv, r3, n1, n2, n3⟩ := hR.cell o2 o1
      have hW0 := rabs_way g' (pk.to, pk.fr)
      have hb := hok'.way (pk.to, pk.fr)
      have hS := hR.sent _ _ o2 o1
      have hSb := hR.sentb _ _ o2 o1
      rw [hsv] at hS
      generalize hW : g'.way (pk.to, pk.fr) = W at *
      rw [hW0] at hb
      simp only [absR, List.length_map] at hb
      rw [a1] at b1
      simp at b1
      obtain ⟨rfl, rfl, rfl, rfl⟩ := b1
      have nt := ne_of_ty t4 r1 (by decide)
      have nt2 := ne_of_ty t4 y1 (by decide)
      have H := (((Holds.start w2 [g'.rows pk.to]).add false t4 (by simp) (by simp)).add false a1 (by simpa using ntr.symm) (by simp)).add false y1 (by simpa using ⟨n1, nt2.symm⟩) (by simp)
      replace H := H.add true r1 (by simpa using ⟨n3, n2, nt.symm⟩) (by simp)
      have hears0 : ∀ g2 : RG, ¬ (pk.ep = W.ep ∧ W.told < pk.seq ∧ pk.seq ≤ W.ss.length) → g2 = g' → g2.abs = g.abs.deliver (j : Nat) := by
        intro g2 hn e
        rw [e, hD, Ns.comes, if_pos hack]
        unfold Ns.hears
        rw [hW0]
        simp only [absR, List.length_map]
        split
        · have hm : max W.told pk.seq = W.told := by omega
          rw [hm]
          have := setW_self g'.abs (pk.to, pk.fr)
          rw [hW0] at this
          exact this.symm
        · rfl
      refine Ops.pure H (X.move rfl) rfl rfl rfl ?_
      refine Ops.pure H (X.extract rfl rfl) rfl rfl rfl ?_
      refine Ops.pure H (X.extract rfl rfl) rfl rfl rfl ?_
      (refine Ops.eff rfl (Y.alloc rfl rfl rfl H ?_); intro b5 w H0 hb5; clear H; have H := H0; clear H0)
      (refine Ops.eff rfl (Y.storeO rfl rfl rfl rfl rfl rfl H Upd.head rfl ?_); intro w H0; clear H; have H := H0; clear H0)
      refine Ops.pure H (X.assign rfl) rfl rfl rfl ?_
      (refine Ops.nil (hK _ _ ?_); clear hK K)
      refine Run.seq ?_
      refine Run.seq ?_
      (refine Run.region ?_; intro K hK)
      refine Ops.pure H (X.move rfl) rfl rfl rfl ?_
      refine Ops.pure H (X.cmp rfl rfl rfl) rfl rfl rfl ?_
      (refine Ops.nil (hK _ _ ?_); clear hK K)
      refine Run.cond_false rfl ?_
      refine Run.skip ?_
      refine Run.seq ?_
      refine Run.seq ?_
      (refine Run.draw H [] [0, 1, 2, 3, 4, 5, 6, 7, 8] ?_; clear H; intro K hK w H)
      refine Draw.take0 rfl (X.move rfl) rfl rfl rfl (by decide +kernel) ?_
      refine Draw.take0 rfl (X.nilCheck rfl) rfl rfl rfl (by decide +kernel) ?_
      refine Draw.take0 rfl (X.fieldAddr rfl rfl rfl rfl rfl rfl) rfl rfl rfl (by decide +kernel) ?_
      refine Draw.take rfl (X.load1 rfl rfl rfl rfl (.tail (.tail (.tail .head))) rfl) rfl rfl rfl (by decide +kernel) ?_
      refine Draw.take0 rfl (X.fieldAddr rfl rfl rfl rfl rfl rfl) rfl rfl rfl (by decide +kernel) ?_
      refine Draw.take rfl (X.load1 rfl rfl rfl rfl Pick.head rfl) rfl rfl rfl (by decide +kernel) ?_
      refine Draw.take0 rfl (X.indexAddr rfl rfl (by omega) rfl rfl rfl rfl) rfl rfl rfl (by decide +kernel) ?_
      refine Draw.take rfl (X.load1 rfl rfl rfl rfl (.tail (.tail (.tail (.tail .head)))) (by assumption)) rfl rfl rfl (by decide +kernel) ?_
      refine Draw.take0 rfl (X.not rfl) rfl rfl rfl (by decide +kernel) ?_
      (refine Draw.done (by decide +kernel) (hK _ _ ?_); clear hK K)
      refine Run.cond_false rfl ?_
      refine Run.skip ?_
      refine Run.seq ?_
      refine Run.seq ?_
      (refine Run.region ?_; intro K hK)
      refine Ops.pure H (X.fieldAddr rfl rfl rfl rfl rfl rfl) rfl rfl rfl ?_
      refine Ops.pure H (X.load1 rfl rfl rfl rfl Pick.head rfl) rfl rfl rfl ?_
      (refine Ops.nil (hK _ _ ?_); clear hK K)
      refine Run.cond_true rfl ?_
      refine Run.seq ?_
      (refine Run.draw H [13] [0, 1, 2, 3, 4, 5, 6, 7, 8, 9, 10, 11, 12, 13] ?_; clear H; intro K hK w H)
      refine Draw.take0 rfl (X.move rfl) rfl rfl rfl (by decide +kernel) ?_
      refine Draw.take0 rfl (X.nilCheck rfl) rfl rfl rfl (by decide +kernel) ?_
      refine Draw.take0 rfl (X.fieldAddr rfl rfl rfl rfl rfl rfl) rfl rfl rfl (by decide +kernel) ?_
      refine Draw.take rfl (X.load1 rfl rfl rfl rfl (.tail (.tail (.tail .head))) rfl) rfl rfl rfl (by decide +kernel) ?_
      refine Draw.take0 rfl (X.fieldAddr rfl rfl rfl rfl rfl rfl) rfl rfl rfl (by decide +kernel) ?_
      refine Draw.take rfl (X.load1 rfl rfl rfl rfl Pick.head rfl) rfl rfl rfl (by decide +kernel) ?_
      refine Draw.take0 rfl (X.indexAddr rfl rfl (by omega) rfl rfl rfl rfl) rfl rfl rfl (by decide +kernel) ?_
      refine Draw.take rfl (X.load1 rfl rfl rfl rfl (.tail (.tail .head)) (by assumption)) rfl rfl rfl (by decide +kernel) ?_
      refine Draw.take0 rfl (X.fieldAddr rfl rfl rfl rfl rfl rfl) rfl rfl rfl (by decide +kernel) ?_
      refine Draw.take rfl (X.load1 rfl rfl rfl rfl Pick.head rfl) rfl rfl rfl (by decide +kernel) ?_
      refine Draw.take0 rfl (X.indexAddr rfl rfl (by omega) rfl rfl rfl rfl) rfl rfl rfl (by decide +kernel) ?_
      refine Draw.take rfl (X.loadN rfl rfl rfl (.tail .head) (by assumption)) rfl rfl rfl (by decide +kernel) ?_
      (refine Draw.eff rfl rfl (by decide +kernel) (Y.alloc rfl rfl rfl H ?_); intro b7 w H0 hb7; clear H; have H := H0; clear H0; refine ⟨fun e he => H.at_ e (by simp only [List.mem_cons, List.not_mem_nil, or_false] at he ⊢; grind), ?_⟩)
      (refine Draw.last rfl rfl (by decide +kernel) (Y.storeO rfl rfl rfl rfl rfl rfl H Upd.head rfl ?_); intro w H0; clear H; have H := H0; clear H0)
      (refine Draw2.done (by decide +kernel) (hK _ _ ?_); clear hK K)
      refine Run.seq ?_
      refine Run.seq ?_
      (refine Run.region ?_; intro K hK)
      refine Ops.pure H (X.fieldAddr rfl rfl rfl rfl rfl rfl) rfl rfl rfl ?_
      refine Ops.pure H (X.load1 rfl rfl rfl rfl (.tail .head) rfl) rfl rfl rfl ?_
      refine Ops.pure H (X.fieldAddr rfl rfl rfl rfl rfl rfl) rfl rfl rfl ?_
      refine Ops.pure H (X.load1 rfl rfl rfl rfl Pick.head rfl) rfl rfl rfl ?_
      refine Ops.pure H (X.cmp rfl rfl rfl) rfl rfl rfl ?_
      refine Ops.pure H (X.move rfl) rfl rfl rfl ?_
      refine Ops.split_dec rfl rfl (fun h47 => ?x0) (fun h47 => ?y0)
      case' y0 =>
        refine Ops.pass rfl rfl rfl ?_
        refine Ops.pass rfl rfl rfl ?_
        refine Ops.pass rfl rfl rfl ?_
        refine Ops.pass rfl rfl rfl ?_
        refine Ops.pass rfl rfl rfl ?_
        refine Ops.pass rfl rfl rfl ?_
        refine Ops.pure H (X.pick_f rfl rfl) rfl rfl rfl ?_
        refine Ops.pure H (X.move rfl) rfl rfl rfl ?_
        refine Ops.pass rfl rfl rfl ?_
        refine Ops.pass rfl rfl rfl ?_
        refine Ops.pass rfl rfl rfl ?_
        refine Ops.pass rfl rfl rfl ?_
        refine Ops.pass rfl rfl rfl ?_
        refine Ops.pass rfl rfl rfl ?_
        refine Ops.pass rfl rfl rfl ?_
        refine Ops.pure H (X.pick_f rfl rfl) rfl rfl rfl ?_
        (refine Ops.nil (hK _ _ ?_); clear hK K)
        refine Run.cond_false rfl ?_
        refine Run.skip ?_
        refine Run.seq ?_
        (refine Run.region ?_; intro K hK)
        refine Ops.pure H (X.assign rfl) rfl rfl rfl ?_
        (refine Ops.nil (hK _ _ ?_); clear hK K)
      case' x0 =>
        refine Ops.pure H (X.fieldAddr rfl rfl rfl rfl rfl rfl) rfl rfl rfl ?_
        refine Ops.pure H (X.load1 rfl rfl rfl rfl (.tail .head) rfl) rfl rfl rfl ?_
        refine Ops.pure H (X.fieldAddr rfl rfl rfl rfl rfl rfl) rfl rfl rfl ?_
        refine Ops.pure H (X.load1 rfl rfl rfl rfl Pick.head rfl) rfl rfl rfl ?_
        refine Ops.pure H (X.conv rfl rfl rfl rfl rfl (u64_in _ (by omega))) rfl rfl rfl ?_
        refine Ops.pure H (X.cmp rfl rfl rfl) rfl rfl rfl ?_
        refine Ops.pure H (X.pick_t rfl rfl) rfl rfl rfl ?_
        refine Ops.pure H (X.move rfl) rfl rfl rfl ?_
        refine Ops.split_dec rfl rfl (fun h55 => ?x1) (fun h55 => ?y1)
        case' y1 =>
          refine Ops.pass rfl rfl rfl ?_
          refine Ops.pass rfl rfl rfl ?_
          refine Ops.pass rfl rfl rfl ?_
          refine Ops.pass rfl rfl rfl ?_
          refine Ops.pass rfl rfl rfl ?_
          refine Ops.pass rfl rfl rfl ?_
          refine Ops.pass rfl rfl rfl ?_
          refine Ops.pure H (X.pick_f rfl rfl) rfl rfl rfl ?_
          (refine Ops.nil (hK _ _ ?_); clear hK K)
          refine Run.cond_false rfl ?_
          refine Run.skip ?_
          refine Run.seq ?_
          (refine Run.region ?_; intro K hK)
          refine Ops.pure H (X.assign rfl) rfl rfl rfl ?_
          (refine Ops.nil (hK _ _ ?_); clear hK K)
        case' x1 =>
          refine Ops.pure H (X.fieldAddr rfl rfl rfl rfl rfl rfl) rfl rfl rfl ?_
          refine Ops.pure H (X.load1 rfl rfl rfl rfl (.tail .head) rfl) rfl rfl rfl ?_
          refine Ops.pure H (X.fieldAddr rfl rfl rfl rfl rfl rfl) rfl rfl rfl ?_
          refine Ops.pure H (X.load1 rfl rfl rfl rfl Pick.head rfl) rfl rfl rfl ?_
          refine Ops.pure H (X.len_slice rfl rfl rfl) rfl rfl rfl ?_
          refine Ops.pure H (X.conv rfl rfl rfl rfl rfl (u64_in _ (by omega))) rfl rfl rfl ?_
          refine Ops.pure H (X.cmp rfl rfl rfl) rfl rfl rfl ?_
          refine Ops.pure H (X.pick_t rfl rfl) rfl rfl rfl ?_
          (refine Ops.nil (hK _ _ ?_); clear hK K)
          refine Run.cond_dec rfl (fun h62 => ?x2) (fun h62 => ?y2)
          case' y2 =>
            refine Run.skip ?_
            refine Run.seq ?_
            (refine Run.region ?_; intro K hK)
            refine Ops.pure H (X.assign rfl) rfl rfl rfl ?_
            (refine Ops.nil (hK _ _ ?_); clear hK K)
          case' x2 =>
            refine Run.seq ?_
            (refine Run.region ?_; intro K hK)
            refine Ops.pure H (X.fieldAddr rfl rfl rfl rfl rfl rfl) rfl rfl rfl ?_
            refine Ops.pure H (X.load1 rfl rfl rfl rfl (.tail .head) rfl) rfl rfl rfl ?_
            refine Ops.pure H (X.conv rfl rfl rfl rfl rfl (IntWalk.i64_in _ (by omega))) rfl rfl rfl ?_
            refine Ops.pure H (X.fieldAddr rfl rfl rfl rfl rfl rfl) rfl rfl rfl ?_
            (refine Ops.eff rfl (Y.store1 rfl rfl rfl rfl rfl rfl H Upd.head (by repeat (first | exact SetC.zero | apply SetC.succ)) ?_); intro w H0; clear H; have H := H0; clear H0)
            (refine Ops.nil (hK _ _ ?_); clear hK K)
            (refine Run.draw H [12] [0, 1, 2, 3, 4, 5, 6, 7, 8, 9, 10, 11, 12] ?_; clear H; intro K hK w H)
            refine Draw.take0 rfl (X.move rfl) rfl rfl rfl (by decide +kernel) ?_
            refine Draw.take0 rfl (X.nilCheck rfl) rfl rfl rfl (by decide +kernel) ?_
            refine Draw.take0 rfl (X.fieldAddr rfl rfl rfl rfl rfl rfl) rfl rfl rfl (by decide +kernel) ?_
            refine Draw.take rfl (X.load1 rfl rfl rfl rfl (.tail (.tail (.tail (.tail .head)))) rfl) rfl rfl rfl (by decide +kernel) ?_
            refine Draw.take0 rfl (X.fieldAddr rfl rfl rfl rfl rfl rfl) rfl rfl rfl (by decide +kernel) ?_
            refine Draw.take rfl (X.load1 rfl rfl rfl rfl (.tail .head) rfl) rfl rfl rfl (by decide +kernel) ?_
            refine Draw.take0 rfl (X.indexAddr rfl rfl (by omega) rfl rfl rfl rfl) rfl rfl rfl (by decide +kernel) ?_
            refine Draw.take rfl (X.load1 rfl rfl rfl rfl (.tail (.tail (.tail .head))) (by assumption)) rfl rfl rfl (by decide +kernel) ?_
            refine Draw.take0 rfl (X.fieldAddr rfl rfl rfl rfl rfl rfl) rfl rfl rfl (by decide +kernel) ?_
            refine Draw.take rfl (X.load1 rfl rfl rfl rfl (.tail .head) rfl) rfl rfl rfl (by decide +kernel) ?_
            refine Draw.take rfl (X.loadN rfl rfl rfl Pick.head (Cs.take rfl)) rfl rfl rfl (by decide +kernel) ?_
            refine Draw.take0 rfl (X.indexAddr rfl rfl (by omega) rfl rfl rfl rfl) rfl rfl rfl (by decide +kernel) ?_
      · refine Draw.last rfl rfl (by decide +kernel) (Y.storeN (vs := [.int .u64 (W.ep : Nat), .slice sa W.ss.length sc, .int .i64 (pk.seq : Nat), .int .i64 (W.came : Nat)]) rfl rfl ?_ rfl rfl rfl H (by first | exact .head | exact .tail .head | exact .tail (.tail .head) | exact .tail (.tail (.tail .head)) | exact .tail (.tail (.tail (.tail .head))) | exact .tail (.tail (.tail (.tail (.tail .head)))) | exact .tail (.tail (.tail (.tail (.tail (.tail .head)))))) (by simp; omega) rfl ?_)
        · dsimp only at *
          have hw : IntKind.i64.wrap ((pk.seq : Nat) : Int) = (pk.seq : Nat) := IntWalk.i64_in _ (by omega)
          simp [Value.cells, hw]
        intro w H
        (refine Draw2.done (by decide +kernel) (hK _ _ ?_); clear hK K)
        refine Run.seq ?_
        (refine Run.region ?_; intro K hK)
        refine Ops.pure H (X.assign rfl) rfl rfl rfl ?_
        (refine Ops.nil (hK _ _ ?_); clear hK K)
        (first | refine Fn.ret1 HF rfl rfl ?_ | refine Fn.ret2 HF rfl rfl rfl ?_ | refine Fn.ret3 HF rfl rfl rfl rfl ?_ | refine Fn.ret0 HF rfl ?_ | refine Fn.fin0 HF rfl ?_ | refine Fn.retG (E := env) HF rfl H (by first | exact RVs.cellN rfl rfl rfl (by first | exact .head | exact .tail .head | exact .tail (.tail .head) | exact .tail (.tail (.tail .head)) | exact .tail (.tail (.tail (.tail .head))) | exact .tail (.tail (.tail (.tail (.tail .head)))) | exact .tail (.tail (.tail (.tail (.tail (.tail .head)))))) (by first | assumption | exact Cs.take rfl) RVs.nil | exact RVs.cellN rfl rfl rfl (by first | exact .head | exact .tail .head | exact .tail (.tail .head) | exact .tail (.tail (.tail .head)) | exact .tail (.tail (.tail (.tail .head))) | exact .tail (.tail (.tail (.tail (.tail .head)))) | exact .tail (.tail (.tail (.tail (.tail (.tail .head)))))) (by first | assumption | exact Cs.take rfl) (RVs.tmp rfl RVs.nil) | exact RVs.cellN rfl rfl rfl (by first | exact .head | exact .tail .head | exact .tail (.tail .head) | exact .tail (.tail (.tail .head)) | exact .tail (.tail (.tail (.tail .head))) | exact .tail (.tail (.tail (.tail (.tail .head)))) | exact .tail (.tail (.tail (.tail (.tail (.tail .head)))))) (by first | assumption | exact Cs.take rfl) (RVs.tmp rfl (RVs.tmp rfl RVs.nil))) rfl ?_)
        have hT := H.fr
        have h5 : ∀ b ∈ [g'.rows pk.to], ∀ cs, w2.heap[b]? ≠ some (row cs 5) := by intro b hb; simp at hb; subst hb; exact not5 r1 (by decide)
        have st2 := st.trans (hR.setWay (c := ⟨W.ep, pk.seq, W.came, .slice sa W.ss.length sc, W.sb, W.ss⟩) o2 o1 H.fr hrv r1 (H.pick (b := g'.rows pk.to) (by first | exact .head | exact .tail .head | exact .tail (.tail .head) | exact .tail (.tail (.tail .head)) | exact .tail (.tail (.tail (.tail .head))) | exact .tail (.tail (.tail (.tail (.tail .head)))) | exact .tail (.tail (.tail (.tail (.tail (.tail .head))))))) (hS.keep H.fr (fun b hb hm => by
          simp at hm; subst hm; rw [hb] at hS; obtain ⟨cs, hcs⟩ := hS.ty; exact ne_of_ty hcs r1 (by decide) rfl)) (fun p hp => ⟨(hSb p hp).keepT H.fr h5, fun b hb => .inl (.inr (.inr ⟨pk.to, pk.fr, p, o2, o1, by rw [hW]; exact hp, hb⟩))⟩) (fun b hb => .inl (by rw [hW]; exact hb)))
        refine ⟨by rw [hE], _, st2, ?_⟩
        rw [rabs_upda, hD, Ns.comes, if_pos hack]
        unfold Ns.hears
        dsimp only at *
        rw [hW0, if_pos (by simp only [absR, List.length_map]; omega)]
        have hm : max W.told pk.seq = pk.seq := by omega
        simp only [absR, hm]
      · (first | refine Fn.ret1 HF rfl rfl ?_ | refine Fn.ret2 HF rfl rfl rfl ?_ | refine Fn.ret3 HF rfl rfl rfl rfl ?_ | refine Fn.ret0 HF rfl ?_ | refine Fn.fin0 HF rfl ?_ | refine Fn.retG (E := env) HF rfl H (by first | exact RVs.cellN rfl rfl rfl (by first | exact .head | exact .tail .head | exact .tail (.tail .head) | exact .tail (.tail (.tail .head)) | exact .tail (.tail (.tail (.tail .head))) | exact .tail (.tail (.tail (.tail (.tail .head)))) | exact .tail (.tail (.tail (.tail (.tail (.tail .head)))))) (by first | assumption | exact Cs.take rfl) RVs.nil | exact RVs.cellN rfl rfl rfl (by first | exact .head | exact .tail .head | exact .tail (.tail .head) | exact .tail (.tail (.tail .head)) | exact .tail (.tail (.tail (.tail .head))) | exact .tail (.tail (.tail (.tail (.tail .head)))) | exact .tail (.tail (.tail (.tail (.tail (.tail .head)))))) (by first | assumption | exact Cs.take rfl) (RVs.tmp rfl RVs.nil) | exact RVs.cellN rfl rfl rfl (by first | exact .head | exact .tail .head | exact .tail (.tail .head) | exact .tail (.tail (.tail .head)) | exact .tail (.tail (.tail (.tail .head))) | exact .tail (.tail (.tail (.tail (.tail .head)))) | exact .tail (.tail (.tail (.tail (.tail (.tail .head)))))) (by first | assumption | exact Cs.take rfl) (RVs.tmp rfl (RVs.tmp rfl RVs.nil))) rfl ?_)
        exact ⟨by rw [hE], g', st.ext (H.fr.drop1 (by rw [r1]; exact H.pick (b := g'.rows pk.to) (by first | exact .head | exact .tail .head | exact .tail (.tail .head) | exact .tail (.tail (.tail .head)) | exact .tail (.tail (.tail (.tail .head))) | exact .tail (.tail (.tail (.tail (.tail .head)))) | exact .tail (.tail (.tail (.tail (.tail (.tail .head)))))))), hears0 _ (fun h => by dsimp only at *; omega) rfl⟩
      · (first | refine Fn.ret1 HF rfl rfl ?_ | refine Fn.ret2 HF rfl rfl rfl ?_ | refine Fn.ret3 HF rfl rfl rfl rfl ?_ | refine Fn.ret0 HF rfl ?_ | refine Fn.fin0 HF rfl ?_ | refine Fn.retG (E := env) HF rfl H (by first | exact RVs.cellN rfl rfl rfl (by first | exact .head | exact .tail .head | exact .tail (.tail .head) | exact .tail (.tail (.tail .head)) | exact .tail (.tail (.tail (.tail .head))) | exact .tail (.tail (.tail (.tail (.tail .head)))) | exact .tail (.tail (.tail (.tail (.tail (.tail .head)))))) (by first | assumption | exact Cs.take rfl) RVs.nil | exact RVs.cellN rfl rfl rfl (by first | exact .head | exact .tail .head | exact .tail (.tail .head) | exact .tail (.tail (.tail .head)) | exact .tail (.tail (.tail (.tail .head))) | exact .tail (.tail (.tail (.tail (.tail .head)))) | exact .tail (.tail (.tail (.tail (.tail (.tail .head)))))) (by first | assumption | exact Cs.take rfl) (RVs.tmp rfl RVs.nil) | exact RVs.cellN rfl rfl rfl (by first | exact .head | exact .tail .head | exact .tail (.tail .head) | exact .tail (.tail (.tail .head)) | exact .tail (.tail (.tail (.tail .head))) | exact .tail (.tail (.tail (.tail (.tail .head)))) | exact .tail (.tail (.tail (.tail (.tail (.tail .head)))))) (by first | assumption | exact Cs.take rfl) (RVs.tmp rfl (RVs.tmp rfl RVs.nil))) rfl ?_)
        exact ⟨by rw [hE], g', st.ext (H.fr.drop1 (by rw [r1]; exact H.pick (b := g'.rows pk.to) (by first | exact .head | exact .tail .head | exact .tail (.tail .head) | exact .tail (.tail (.tail .head)) | exact .tail (.tail (.tail (.tail .head))) | exact .tail (.tail (.tail (.tail (.tail .head)))) | exact .tail (.tail (.tail (.tail (.tail (.tail .head)))))))), hears0 _ (fun h => by dsimp only at *; omega) rfl⟩
      · (first | refine Fn.ret1 HF rfl rfl ?_ | refine Fn.ret2 HF rfl rfl rfl ?_ | refine Fn.ret3 HF rfl rfl rfl rfl ?_ | refine Fn.ret0 HF rfl ?_ | refine Fn.fin0 HF rfl ?_ | refine Fn.retG (E := env) HF rfl H (by first | exact RVs.cellN rfl rfl rfl (by first | exact .head | exact .tail .head | exact .tail (.tail .head) | exact .tail (.tail (.tail .head)) | exact .tail (.tail (.tail (.tail .head))) | exact .tail (.tail (.tail (.tail (.tail .head)))) | exact .tail (.tail (.tail (.tail (.tail (.tail .head)))))) (by first | assumption | exact Cs.take rfl) RVs.nil | exact RVs.cellN rfl rfl rfl (by first | exact .head | exact .tail .head | exact .tail (.tail .head) | exact .tail (.tail (.tail .head)) | exact .tail (.tail (.tail (.tail .head))) | exact .tail (.tail (.tail (.tail (.tail .head)))) | exact .tail (.tail (.tail (.tail (.tail (.tail .head)))))) (by first | assumption | exact Cs.take rfl) (RVs.tmp rfl RVs.nil) | exact RVs.cellN rfl rfl rfl (by first | exact .head | exact .tail .head | exact .tail (.tail .head) | exact .tail (.tail (.tail .head)) | exact .tail (.tail (.tail (.tail .head))) | exact .tail (.tail (.tail (.tail (.tail .head)))) | exact .tail (.tail (.tail (.tail (.tail (.tail .head)))))) (by first | assumption | exact Cs.take rfl) (RVs.tmp rfl (RVs.tmp rfl RVs.nil))) rfl ?_)
        exact ⟨by rw [hE], g', st.ext (H.fr.drop1 (by rw [r1]; exact H.pick (b := g'.rows pk.to) (by first | exact .head | exact .tail .head | exact .tail (.tail .head) | exact .tail (.tail (.tail .head)) | exact .tail (.tail (.tail (.tail .head))) | exact .tail (.tail (.tail (.tail (.tail .head)))) | exact .tail (.tail (.tail (.tail (.tail (.tail .head)))))))), hears0 _ (fun h => by dsimp only at *; omega) rfl⟩
    | false =>
      obtain ⟨tv', yoff, ycap, ycs, xv', av', roff, rcap, rcs, sa, sc, b1, y1, y2, hrv, r1, r2, hsv, r3, n1, n2, n3⟩ := hR.cell o1 o2
      have hW0 := rabs_way g' (pk.fr, pk.to)
      have hb := hok'.way (pk.fr, pk.to)
      have hS := hR.sent _ _ o1 o2
      have hSb := hR.sentb _ _ o1 o2
      rw [hsv] at hS
      generalize hW : g'.way (pk.fr, pk.to) = W at *
      rw [hW0] at hb
      simp only [absR, List.length_map] at hb
      obtain ⟨xoff, xcap, xs, rfl, x2, x3, x4, x5, x6⟩ := a4
      have hxc : xs[xoff + pk.to * 1]? = some (g'.bv pk.to) := (Cs.flat (sz := 1) (f := fun i => [g'.bv i]) (fun _ => rfl) x6 o2).get 0 _ rfl
      have hBx := hR.box pk.to o2
      have hbb := hR.boxb pk.to o2
      have hbl := (hok'.box pk.to).1
      rw [rabs_box, List.length_map] at hbl
      obtain ⟨xa, xc, hbv, _⟩ := hBx.slice
      rw [hbv] at hxc hBx
      rw [a1] at b1
      simp at b1
      obtain ⟨rfl, rfl, rfl, rfl⟩ := b1
      have nt := ne_of_ty t4 r1 (by decide)
      have nt2 := ne_of_ty t4 y1 (by decide)
      have nx1 : g'.xb ≠ g'.rb := ne_of_ty x4 a1 (by decide)
      have nx2 : g'.xb ≠ g'.tb := ne_of_ty x4 t4 (by decide)
      have nx3 : g'.xb ≠ g'.yb := ne_of_ty x4 y1 (by decide)
      have nx4 : g'.xb ≠ g'.rows pk.fr := ne_of_ty x4 r1 (by decide)
      clear H
      have H := (((Holds.start w2 [g'.rows pk.fr]).add false t4 (by simp) (by simp)).add false a1 (by simpa using ntr.symm) (by simp)).add false y1 (by simpa using ⟨n1, nt2.symm⟩) (by simp)
      replace H := H.add true r1 (by simpa using ⟨n3, n2, nt.symm⟩) (by simp)
      replace H := H.add false x4 (by simpa using ⟨nx4, nx3, nx1, nx2⟩) (by simp)
      rw [Ns.comes, if_neg (by simp [hack])] at hD
      unfold Ns.lands at hD
      rw [hW0] at hD
      refine Ops.pure H (X.move rfl) rfl rfl rfl ?_
      refine Ops.pure H (X.extract rfl rfl) rfl rfl rfl ?_
      refine Ops.pure H (X.extract rfl rfl) rfl rfl rfl ?_
      (refine Ops.eff rfl (Y.alloc rfl rfl rfl H ?_); intro b5 w H0 hb5; clear H; have H := H0; clear H0)
      (refine Ops.eff rfl (Y.storeO rfl rfl rfl rfl rfl rfl H Upd.head rfl ?_); intro w H0; clear H; have H := H0; clear H0)
      refine Ops.pure H (X.assign rfl) rfl rfl rfl ?_
      (refine Ops.nil (hK _ _ ?_); clear hK K)
      refine Run.seq ?_
      refine Run.seq ?_
      (refine Run.region ?_; intro K hK)
      refine Ops.pure H (X.move rfl) rfl rfl rfl ?_
      refine Ops.pure H (X.cmp rfl rfl rfl) rfl rfl rfl ?_
      (refine Ops.nil (hK _ _ ?_); clear hK K)
      refine Run.cond_false rfl ?_
      refine Run.skip ?_
      refine Run.seq ?_
      refine Run.seq ?_
      (refine Run.draw H [] [0, 1, 2, 3, 4, 5, 6, 7, 8] ?_; clear H; intro K hK w H)
      refine Draw.take0 rfl (X.move rfl) rfl rfl rfl (by decide +kernel) ?_
      refine Draw.take0 rfl (X.nilCheck rfl) rfl rfl rfl (by decide +kernel) ?_
      refine Draw.take0 rfl (X.fieldAddr rfl rfl rfl rfl rfl rfl) rfl rfl rfl (by decide +kernel) ?_
      refine Draw.take rfl (X.load1 rfl rfl rfl rfl (.tail (.tail (.tail (.tail .head)))) rfl) rfl rfl rfl (by decide +kernel) ?_
      refine Draw.take0 rfl (X.fieldAddr rfl rfl rfl rfl rfl rfl) rfl rfl rfl (by decide +kernel) ?_
      refine Draw.take rfl (X.load1 rfl rfl rfl rfl Pick.head rfl) rfl rfl rfl (by decide +kernel) ?_
      refine Draw.take0 rfl (X.indexAddr rfl rfl (by omega) rfl rfl rfl rfl) rfl rfl rfl (by decide +kernel) ?_
      refine Draw.take rfl (X.load1 rfl rfl rfl rfl (.tail (.tail (.tail (.tail (.tail .head))))) (by assumption)) rfl rfl rfl (by decide +kernel) ?_
      refine Draw.take0 rfl (X.not rfl) rfl rfl rfl (by decide +kernel) ?_
      (refine Draw.done (by decide +kernel) (hK _ _ ?_); clear hK K)
      refine Run.cond_false rfl ?_
      refine Run.skip ?_
      refine Run.seq ?_
      refine Run.seq ?_
      (refine Run.region ?_; intro K hK)
      refine Ops.pure H (X.fieldAddr rfl rfl rfl rfl rfl rfl) rfl rfl rfl ?_
      refine Ops.pure H (X.load1 rfl rfl rfl rfl Pick.head rfl) rfl rfl rfl ?_
      (refine Ops.nil (hK _ _ ?_); clear hK K)
      refine Run.cond_false rfl ?_
      refine Run.skip ?_
      refine Run.seq ?_
      (refine Run.draw H [13] [0, 1, 2, 3, 4, 5, 6, 7, 8, 9, 10, 11, 12, 13] ?_; clear H; intro K hK w H)
      refine Draw.take0 rfl (X.move rfl) rfl rfl rfl (by decide +kernel) ?_
      refine Draw.take0 rfl (X.nilCheck rfl) rfl rfl rfl (by decide +kernel) ?_
      refine Draw.take0 rfl (X.fieldAddr rfl rfl rfl rfl rfl rfl) rfl rfl rfl (by decide +kernel) ?_
      refine Draw.take rfl (X.load1 rfl rfl rfl rfl (.tail (.tail (.tail (.tail .head)))) rfl) rfl rfl rfl (by decide +kernel) ?_
      refine Draw.take0 rfl (X.fieldAddr rfl rfl rfl rfl rfl rfl) rfl rfl rfl (by decide +kernel) ?_
      refine Draw.take rfl (X.load1 rfl rfl rfl rfl Pick.head rfl) rfl rfl rfl (by decide +kernel) ?_
      refine Draw.take0 rfl (X.indexAddr rfl rfl (by omega) rfl rfl rfl rfl) rfl rfl rfl (by decide +kernel) ?_
      refine Draw.take rfl (X.load1 rfl rfl rfl rfl (.tail (.tail (.tail .head))) (by assumption)) rfl rfl rfl (by decide +kernel) ?_
      refine Draw.take0 rfl (X.fieldAddr rfl rfl rfl rfl rfl rfl) rfl rfl rfl (by decide +kernel) ?_
      refine Draw.take rfl (X.load1 rfl rfl rfl rfl Pick.head rfl) rfl rfl rfl (by decide +kernel) ?_
      refine Draw.take0 rfl (X.indexAddr rfl rfl (by omega) rfl rfl rfl rfl) rfl rfl rfl (by decide +kernel) ?_
      refine Draw.take rfl (X.loadN rfl rfl rfl (.tail (.tail .head)) (by assumption)) rfl rfl rfl (by decide +kernel) ?_
      (refine Draw.eff rfl rfl (by decide +kernel) (Y.alloc rfl rfl rfl H ?_); intro b8 w H0 hb8; clear H; have H := H0; clear H0; refine ⟨fun e he => H.at_ e (by simp only [List.mem_cons, List.not_mem_nil, or_false] at he ⊢; grind), ?_⟩)
      (refine Draw.last rfl rfl (by decide +kernel) (Y.storeO rfl rfl rfl rfl rfl rfl H Upd.head rfl ?_); intro w H0; clear H; have H := H0; clear H0)
      (refine Draw2.done (by decide +kernel) (hK _ _ ?_); clear hK K)
      refine Run.seq ?_
      refine Run.seq ?_
      (refine Run.region ?_; intro K hK)
      refine Ops.pure H (X.fieldAddr rfl rfl rfl rfl rfl rfl) rfl rfl rfl ?_
      refine Ops.pure H (X.load1 rfl rfl rfl rfl (.tail .head) rfl) rfl rfl rfl ?_
      refine Ops.pure H (X.fieldAddr rfl rfl rfl rfl rfl rfl) rfl rfl rfl ?_
      refine Ops.pure H (X.load1 rfl rfl rfl rfl Pick.head rfl) rfl rfl rfl ?_
      refine Ops.pure H (X.cmp rfl rfl rfl) rfl rfl rfl ?_
      (refine Ops.nil (hK _ _ ?_); clear hK K)
      refine Run.cond_ndec rfl (fun h95 => ?x3) (fun h95 => ?y3)
      case' y3 =>
        refine Run.skip ?_
        refine Run.seq ?_
        refine Run.seq ?_
        (refine Run.region ?_; intro K hK)
        refine Ops.pure H (X.fieldAddr rfl rfl rfl rfl rfl rfl) rfl rfl rfl ?_
        refine Ops.pure H (X.load1 rfl rfl rfl rfl (.tail .head) rfl) rfl rfl rfl ?_
        refine Ops.pure H (X.fieldAddr rfl rfl rfl rfl rfl rfl) rfl rfl rfl ?_
        refine Ops.pure H (X.load1 rfl rfl rfl rfl Pick.head rfl) rfl rfl rfl ?_
        refine Ops.pure H (X.succ rfl rfl (by omega)) rfl rfl rfl ?_
        refine Ops.pure H (X.conv rfl rfl rfl rfl rfl (u64_in _ (by omega))) rfl rfl rfl ?_
        refine Ops.pure H (X.cmp rfl rfl rfl) rfl rfl rfl ?_
        (refine Ops.nil (hK _ _ ?_); clear hK K)
        refine Run.cond_dec rfl (fun h102 => ?x4) (fun h102 => ?y4)
        case' y4 =>
          refine Run.skip ?_
          refine Run.seq ?_
          (refine Run.region ?_; intro K hK)
          refine Ops.pure H (X.move rfl) rfl rfl rfl ?_
          refine Ops.pure H (X.fieldAddr rfl rfl rfl rfl rfl rfl) rfl rfl rfl ?_
          refine Ops.pure H (X.load1 rfl rfl rfl rfl (.tail .head) rfl) rfl rfl rfl ?_
          refine Ops.pure H (X.fieldAddr rfl rfl rfl rfl rfl rfl) rfl rfl rfl ?_
          refine Ops.pure H (X.load1 rfl rfl rfl rfl (.tail .head) rfl) rfl rfl rfl ?_
          refine Ops.pure H (X.fieldAddr rfl rfl rfl rfl rfl rfl) rfl rfl rfl ?_
          refine Ops.pure H (X.load1 rfl rfl rfl rfl Pick.head rfl) rfl rfl rfl ?_
          refine Ops.pure H (X.conv rfl rfl rfl rfl rfl (u64_in _ (by omega))) rfl rfl rfl ?_
          refine Ops.pure H (X.fieldAddr rfl rfl rfl rfl rfl rfl) rfl rfl rfl ?_
          refine Ops.pure H (X.load1 rfl rfl rfl rfl (.tail .head) rfl) rfl rfl rfl ?_
          refine Ops.pure H (X.buildO rfl rfl rfl rfl rfl rfl) rfl rfl rfl ?_
        case' x4 =>
          refine Run.seq ?_
          (refine Run.region ?_; intro K hK)
          refine Ops.pure H (X.fieldAddr rfl rfl rfl rfl rfl rfl) rfl rfl rfl ?_
          refine Ops.pure H (X.load1 rfl rfl rfl rfl Pick.head rfl) rfl rfl rfl ?_
          refine Ops.pure H (X.succ rfl rfl (by omega)) rfl rfl rfl ?_
          refine Ops.pure H (X.fieldAddr rfl rfl rfl rfl rfl rfl) rfl rfl rfl ?_
          (refine Ops.eff rfl (Y.store1 rfl rfl rfl rfl rfl rfl H Upd.head (by repeat (first | exact SetC.zero | apply SetC.succ)) ?_); intro w H0; clear H; have H := H0; clear H0)
          (refine Ops.nil (hK _ _ ?_); clear hK K)
          refine Run.seq ?_
          (refine Run.draw H [12] [0, 1, 2, 3, 4, 5, 6, 7, 8, 9, 10, 11, 12] ?_; clear H; intro K hK w H)
          refine Draw.take0 rfl (X.move rfl) rfl rfl rfl (by decide +kernel) ?_
          refine Draw.take0 rfl (X.nilCheck rfl) rfl rfl rfl (by decide +kernel) ?_
          refine Draw.take0 rfl (X.fieldAddr rfl rfl rfl rfl rfl rfl) rfl rfl rfl (by decide +kernel) ?_
          refine Draw.take rfl (X.load1 rfl rfl rfl rfl (.tail (.tail (.tail (.tail (.tail .head))))) rfl) rfl rfl rfl (by decide +kernel) ?_
          refine Draw.take0 rfl (X.fieldAddr rfl rfl rfl rfl rfl rfl) rfl rfl rfl (by decide +kernel) ?_
          refine Draw.take rfl (X.load1 rfl rfl rfl rfl (.tail .head) rfl) rfl rfl rfl (by decide +kernel) ?_
          refine Draw.take0 rfl (X.indexAddr rfl rfl (by omega) rfl rfl rfl rfl) rfl rfl rfl (by decide +kernel) ?_
          refine Draw.take rfl (X.load1 rfl rfl rfl rfl (.tail (.tail (.tail (.tail .head)))) (by assumption)) rfl rfl rfl (by decide +kernel) ?_
          refine Draw.take0 rfl (X.fieldAddr rfl rfl rfl rfl rfl rfl) rfl rfl rfl (by decide +kernel) ?_
          refine Draw.take rfl (X.load1 rfl rfl rfl rfl (.tail .head) rfl) rfl rfl rfl (by decide +kernel) ?_
          refine Draw.take rfl (X.loadN rfl rfl rfl Pick.head (Cs.take rfl)) rfl rfl rfl (by decide +kernel) ?_
          refine Draw.take0 rfl (X.indexAddr rfl rfl (by omega) rfl rfl rfl rfl) rfl rfl rfl (by decide +kernel) ?_
      case' x3 =>
        refine Run.seq ?_
        (refine Run.region ?_; intro K hK)
        refine Ops.pure H (X.assign rfl) rfl rfl rfl ?_
        (refine Ops.nil (hK _ _ ?_); clear hK K)
      · (first | refine Fn.ret1 HF rfl rfl ?_ | refine Fn.ret2 HF rfl rfl rfl ?_ | refine Fn.ret3 HF rfl rfl rfl rfl ?_ | refine Fn.ret0 HF rfl ?_ | refine Fn.fin0 HF rfl ?_ | refine Fn.retG (E := env) HF rfl H (by first | exact RVs.cellN rfl rfl rfl (by first | exact .head | exact .tail .head | exact .tail (.tail .head) | exact .tail (.tail (.tail .head)) | exact .tail (.tail (.tail (.tail .head))) | exact .tail (.tail (.tail (.tail (.tail .head)))) | exact .tail (.tail (.tail (.tail (.tail (.tail .head)))))) (by first | assumption | exact Cs.take rfl) RVs.nil | exact RVs.cellN rfl rfl rfl (by first | exact .head | exact .tail .head | exact .tail (.tail .head) | exact .tail (.tail (.tail .head)) | exact .tail (.tail (.tail (.tail .head))) | exact .tail (.tail (.tail (.tail (.tail .head)))) | exact .tail (.tail (.tail (.tail (.tail (.tail .head)))))) (by first | assumption | exact Cs.take rfl) (RVs.tmp rfl RVs.nil) | exact RVs.cellN rfl rfl rfl (by first | exact .head | exact .tail .head | exact .tail (.tail .head) | exact .tail (.tail (.tail .head)) | exact .tail (.tail (.tail (.tail .head))) | exact .tail (.tail (.tail (.tail (.tail .head)))) | exact .tail (.tail (.tail (.tail (.tail (.tail .head)))))) (by first | assumption | exact Cs.take rfl) (RVs.tmp rfl (RVs.tmp rfl RVs.nil))) rfl ?_)
        exact ⟨by rw [hE], g', st.ext (H.fr.drop1 (by rw [r1]; exact H.pick (b := g'.rows pk.fr) (by first | exact .head | exact .tail .head | exact .tail (.tail .head) | exact .tail (.tail (.tail .head)) | exact .tail (.tail (.tail (.tail .head))) | exact .tail (.tail (.tail (.tail (.tail .head)))) | exact .tail (.tail (.tail (.tail (.tail (.tail .head)))))))), by rw [hD, if_neg (by dsimp only [absR] at *; omega)]⟩
      · refine Draw.last rfl rfl (by decide +kernel) (Y.storeN (vs := [.int .u64 (W.ep : Nat), .slice sa W.ss.length sc, .int .i64 (W.told : Nat), .int .i64 ((W.came + 1 : Nat) : Nat)]) rfl rfl rfl rfl rfl rfl H (by first | exact .head | exact .tail .head | exact .tail (.tail .head) | exact .tail (.tail (.tail .head)) | exact .tail (.tail (.tail (.tail .head))) | exact .tail (.tail (.tail (.tail (.tail .head)))) | exact .tail (.tail (.tail (.tail (.tail (.tail .head)))))) (by simp; omega) rfl ?_)
        intro w H
        (refine Draw2.done (by decide +kernel) (hK _ _ ?_); clear hK K)
        obtain ⟨w3, hw3⟩ : ∃ w3, w3 = w := ⟨_, rfl⟩
        subst hw3
        have hT := H.fr
        have h5 : ∀ b ∈ [g'.rows pk.fr], ∀ cs, w2.heap[b]? ≠ some (row cs 5) := by intro b hb; simp at hb; subst hb; exact not5 r1 (by decide)
        have st2 := hR.setWay (c := ⟨W.ep, W.told, W.came + 1, .slice sa W.ss.length sc, W.sb, W.ss⟩) o1 o2 H.fr hrv r1 (H.pick (b := g'.rows pk.fr) (by first | exact .head | exact .tail .head | exact .tail (.tail .head) | exact .tail (.tail (.tail .head)) | exact .tail (.tail (.tail (.tail .head))) | exact .tail (.tail (.tail (.tail (.tail .head)))) | exact .tail (.tail (.tail (.tail (.tail (.tail .head))))))) (hS.keep H.fr (fun b hb hm => by
          simp at hm; subst hm; rw [hb] at hS; obtain ⟨cs, hcs⟩ := hS.ty; exact ne_of_ty hcs r1 (by decide) rfl)) (fun p hp => ⟨(hSb p hp).keepT H.fr h5, fun b hb => .inl (.inr (.inr ⟨pk.fr, pk.to, p, o1, o2, by rw [hW]; exact hp, hb⟩))⟩) (fun b hb => .inl (by rw [hW]; exact hb))
        have hB3 := hBx.keep H.fr (fun b hb hm => by
          simp at hm; subst hm; rw [hb] at hBx; obtain ⟨cs, hcs⟩ := hBx.ty; exact ne_of_ty hcs r1 (by decide) rfl)
        have hBp3 := hB.keepT H.fr h5
        have p8 := H.pick (b := b8) (by first | exact .head | exact .tail .head | exact .tail (.tail .head) | exact .tail (.tail (.tail .head)) | exact .tail (.tail (.tail (.tail .head))) | exact .tail (.tail (.tail (.tail (.tail .head)))) | exact .tail (.tail (.tail (.tail (.tail (.tail .head))))))
        have p5 := H.pick (b := b5) (by first | exact .head | exact .tail .head | exact .tail (.tail .head) | exact .tail (.tail (.tail .head)) | exact .tail (.tail (.tail (.tail .head))) | exact .tail (.tail (.tail (.tail (.tail .head)))) | exact .tail (.tail (.tail (.tail (.tail (.tail .head))))))
        have r0 := H.pick (b := g'.rb) (by first | exact .head | exact .tail .head | exact .tail (.tail .head) | exact .tail (.tail (.tail .head)) | exact .tail (.tail (.tail (.tail .head))) | exact .tail (.tail (.tail (.tail (.tail .head)))) | exact .tail (.tail (.tail (.tail (.tail (.tail .head))))))
        have x0 := H.pick (b := g'.xb) (by first | exact .head | exact .tail .head | exact .tail (.tail .head) | exact .tail (.tail (.tail .head)) | exact .tail (.tail (.tail (.tail .head))) | exact .tail (.tail (.tail (.tail (.tail .head)))) | exact .tail (.tail (.tail (.tail (.tail (.tail .head))))))
        have n85 : b8 ≠ b5 := ne_of_ty p8 p5 (by decide)
        have n8r : b8 ≠ g'.rb := ne_of_ty p8 r0 (by decide)
        have n5r : b5 ≠ g'.rb := ne_of_ty p5 r0 (by decide)
        have nx8 : g'.xb ≠ b8 := ne_of_ty x0 p8 (by decide)
        have nx5 : g'.xb ≠ b5 := ne_of_ty x0 p5 (by decide)
        clear H
        have H := (((Holds.start w3 [g'.xb]).add false p8 (by simp) (by simp)).add false p5 (by simpa using n85.symm) (by simp)).add false r0 (by simpa using ⟨n5r.symm, n8r.symm⟩) (by simp)
        replace H := H.add true x0 (by simpa using ⟨nx1, nx5, nx8⟩) (by simp)
        refine Run.meet (fun (_ : Nat × Nat × Nat × List Value) => [(0, .pointer (some ⟨g'.rb, 0, none⟩)), (5, .pointer (some ⟨b5, 0, none⟩)), (8, .pointer (some ⟨b8, 0, none⟩))])
          (fun x w' => Fr w3 w' [g'.xb] ∧ w'.heap[g'.xb]? = some (row (putC xs (xoff + pk.to * 1) [.slice (some ⟨x.1, x.2.1, none⟩) ((g'.box pk.to).length + 1) x.2.2.1]) 72) ∧ w'.heap[x.1]? = some (row x.2.2.2 52) ∧ w3.heap.size ≤ x.1 ∧ (g'.box pk.to).length + 1 ≤ x.2.2.1 ∧ x.2.2.1 ≤ 9223372036854775807 ∧ x.2.1 + x.2.2.1 * 2 ≤ x.2.2.2.length ∧ Cs x.2.2.2 x.2.1 (((g'.box pk.to).length + 1) * 2) ((g'.box pk.to).flatMap msC ++ [.int .i64 (pk.fr : Nat), .slice pa pk.b.length pc])) ?_ ?_
        · rintro ⟨fb', foff, fcap, fcs⟩ w4 ⟨hF, r4, f4, hfz, hc1, hc2, hc3, hc4⟩
          dsimp only at hF r4 f4 hfz hc1 hc2 hc3 hc4
          have h5x : ∀ b ∈ [g'.xb], ∀ cs, w3.heap[b]? ≠ some (row cs 5) := by intro b hb; simp at hb; subst hb; exact not5 x0 (by decide)
          obtain ⟨q1, q2, q3⟩ := st2.ok.setBoxX (fun b => RB g b) (i := pk.to) (ms' := g'.box pk.to ++ [((pk.fr, pk.b), .slice pa pk.b.length pc)]) (v' := .slice (some ⟨fb', foff, none⟩) ((g'.box pk.to).length + 1) fcap) (ob' := some fb') o2 hF ⟨_, _, _, r0⟩ x0 r4 ⟨foff, fcap, fcs, by simp, by simpa using hc1, hc2, f4, hc3, hc4.cast rfl (by simp) (by simp [msC])⟩ (fun p hp => by
            simp at hp
            rcases hp with hp | rfl
            · exact ⟨(st2.ok.boxb pk.to o2 p hp).keepT hF h5x, fun b hb => .inl (.inr (.inl ⟨pk.to, p, o2, hp, hb⟩))⟩
            · exact ⟨hBp3.keepT hF h5x, fun b hb => .inr (.inr (hBI b hb))⟩) (fun b hb => by cases hb; exact .inr hfz)
          have st3 := (st.trans st2).transX q1 q2 q3 rfl rfl (fun b hb => .inl (.inr hb))
          have hab3 : RG.abs { ({ g' with way := upda g'.way (pk.fr, pk.to) ⟨W.ep, W.told, W.came + 1, .slice sa W.ss.length sc, W.sb, W.ss⟩ } : RG) with bv := updb g'.bv pk.to (.slice (some ⟨fb', foff, none⟩) ((g'.box pk.to).length + 1) fcap), bx := updb g'.bx pk.to (some fb'), box := updb g'.box pk.to (g'.box pk.to ++ [((pk.fr, pk.b), .slice pa pk.b.length pc)]) } = (g'.abs.setW (pk.fr, pk.to) ⟨W.ep, W.ss.map (·.1), W.told, W.came + 1⟩).setB pk.to (g'.abs.box pk.to ++ [(pk.fr, pk.b)]) := by
            have e1 := rabs_updb ({ g' with way := upda g'.way (pk.fr, pk.to) ⟨W.ep, W.told, W.came + 1, .slice sa W.ss.length sc, W.sb, W.ss⟩ } : RG) pk.to (.slice (some ⟨fb', foff, none⟩) ((g'.box pk.to).length + 1) fcap) (some fb') (g'.box pk.to ++ [((pk.fr, pk.b), .slice pa pk.b.length pc)])
            rw [rabs_upda] at e1
            refine e1.trans ?_
            simp [absR, rabs_box]
          have hair3 : ({ ({ g' with way := upda g'.way (pk.fr, pk.to) ⟨W.ep, W.told, W.came + 1, .slice sa W.ss.length sc, W.sb, W.ss⟩ } : RG) with bv := updb g'.bv pk.to (.slice (some ⟨fb', foff, none⟩) ((g'.box pk.to).length + 1) fcap), bx := updb g'.bx pk.to (some fb'), box := updb g'.box pk.to (g'.box pk.to ++ [((pk.fr, pk.b), .slice pa pk.b.length pc)]) } : RG).air = g'.air := rfl
          dsimp only at st3
          generalize ({ n := g'.n, rb := g'.rb, tb := g'.tb, yb := g'.yb, xb := g'.xb, ab := g'.ab, up := g'.up, rv := g'.rv, rows := g'.rows, way := upda g'.way (pk.fr, pk.to) ⟨W.ep, W.told, W.came + 1, .slice sa W.ss.length sc, W.sb, W.ss⟩, bv := updb g'.bv pk.to (.slice (some ⟨fb', foff, none⟩) ((g'.box pk.to).length + 1) fcap), bx := updb g'.bx pk.to (some fb'), box := updb g'.box pk.to (g'.box pk.to ++ [((pk.fr, pk.b), .slice pa pk.b.length pc)]), air := g'.air } : RG) = g3 at st3 hab3 hair3
          have p84 := hF.get p8 (by simpa using nx8.symm)
          have p54 := hF.get p5 (by simpa using nx5.symm)
          clear H
          have H := ((Holds.start w4 []).add false p84 (by simp) (by simp)).add false p54 (by simpa using n85.symm) (by simp)
          refine Run.seq ?_
          (refine Run.region ?_; intro K hK)
          refine Ops.pure H (X.move rfl) rfl rfl rfl ?_
          refine Ops.pure H (X.fieldAddr rfl rfl rfl rfl rfl rfl) rfl rfl rfl ?_
          refine Ops.pure H (X.load1 rfl rfl rfl rfl Pick.head rfl) rfl rfl rfl ?_
          refine Ops.pure H (X.fieldAddr rfl rfl rfl rfl rfl rfl) rfl rfl rfl ?_
          refine Ops.pure H (X.load1 rfl rfl rfl rfl Pick.head rfl) rfl rfl rfl ?_
          refine Ops.pure H (X.fieldAddr rfl rfl rfl rfl rfl rfl) rfl rfl rfl ?_
          refine Ops.pure H (X.load1 rfl rfl rfl rfl (.tail .head) rfl) rfl rfl rfl ?_
          refine Ops.pure H (X.conv rfl rfl rfl rfl rfl (u64_in _ (by omega))) rfl rfl rfl ?_
          refine Ops.pure H (X.fieldAddr rfl rfl rfl rfl rfl rfl) rfl rfl rfl ?_
          refine Ops.pure H (X.load1 rfl rfl rfl rfl Pick.head rfl) rfl rfl rfl ?_
          refine Ops.pure H (X.buildO rfl rfl rfl rfl rfl rfl) rfl rfl rfl ?_
          have hokl := hok'.fly.1
          refine Ops.eff rfl (Y.call rfl rfl (by first | assumption | decide +kernel) rfl (rfly_any _ g3 ⟨pk.to, pk.fr, true, W.came + 1, pk.ep, []⟩ (.slice none 0 0) (st3.rb.trans e1.symm) (st3.ok.ext H.fr) Bts.nil (by simp [blkV]) (by rw [hair3, ← rfly_len]; exact hokl)) rfl ?_)
          rintro v w5 ⟨g4, st4, hab4, _⟩
          replace st4 := st3.trans (.pre st3.ok H.fr st4)
          clear H
          have H := Holds.start w5 []
          (refine Ops.nil (hK _ _ ?_); clear hK K)
          refine Run.seq ?_
          (refine Run.region ?_; intro K hK)
          refine Ops.pure H (X.assign rfl) rfl rfl rfl ?_
          (refine Ops.nil (hK _ _ ?_); clear hK K)
          (first | refine Fn.ret1 HF rfl rfl ?_ | refine Fn.ret2 HF rfl rfl rfl ?_ | refine Fn.ret3 HF rfl rfl rfl rfl ?_ | refine Fn.ret0 HF rfl ?_ | refine Fn.fin0 HF rfl ?_ | refine Fn.retG (E := env) HF rfl H (by first | exact RVs.cellN rfl rfl rfl (by first | exact .head | exact .tail .head | exact .tail (.tail .head) | exact .tail (.tail (.tail .head)) | exact .tail (.tail (.tail (.tail .head))) | exact .tail (.tail (.tail (.tail (.tail .head)))) | exact .tail (.tail (.tail (.tail (.tail (.tail .head)))))) (by first | assumption | exact Cs.take rfl) RVs.nil | exact RVs.cellN rfl rfl rfl (by first | exact .head | exact .tail .head | exact .tail (.tail .head) | exact .tail (.tail (.tail .head)) | exact .tail (.tail (.tail (.tail .head))) | exact .tail (.tail (.tail (.tail (.tail .head)))) | exact .tail (.tail (.tail (.tail (.tail (.tail .head)))))) (by first | assumption | exact Cs.take rfl) (RVs.tmp rfl RVs.nil) | exact RVs.cellN rfl rfl rfl (by first | exact .head | exact .tail .head | exact .tail (.tail .head) | exact .tail (.tail (.tail .head)) | exact .tail (.tail (.tail (.tail .head))) | exact .tail (.tail (.tail (.tail (.tail .head)))) | exact .tail (.tail (.tail (.tail (.tail (.tail .head)))))) (by first | assumption | exact Cs.take rfl) (RVs.tmp rfl (RVs.tmp rfl RVs.nil))) rfl ?_)
          refine ⟨by rw [hE], g4, st4.ext H.fr, ?_⟩
          rw [hab4, hab3, hD]
          dsimp only at h95 h102
          unfold Ns.gets
          rw [hW0, if_pos (by dsimp only [absR]; omega), if_pos (by dsimp only [absR]; omega)]
          simp [absR, Ns.setW, Ns.setB]
        · intro kk go
          refine Run.draw H [24] [0, 1, 2, 3, 4, 5, 7, 8, 9, 10, 11, 12, 13, 14, 16, 17, 18, 19, 20, 6, 15, 21, 22, 23, 24] ?_
          have x00 := x0
          clear H p5 p8 r0 x0
          intro K hK w H
          refine Draw.take0 rfl (X.move rfl) rfl rfl rfl (by decide +kernel) ?_
          refine Draw.take0 rfl (X.nilCheck rfl) rfl rfl rfl (by decide +kernel) ?_
          refine Draw.take0 rfl (X.fieldAddr rfl rfl rfl rfl rfl rfl) rfl rfl rfl (by decide +kernel) ?_
          refine Draw.take rfl (X.load1 rfl rfl rfl rfl (.tail .head) rfl) rfl rfl rfl (by decide +kernel) ?_
          refine Draw.take0 rfl (X.fieldAddr rfl rfl rfl rfl rfl rfl) rfl rfl rfl (by decide +kernel) ?_
          refine Draw.take rfl (X.load1 rfl rfl rfl rfl (.tail (.tail .head)) rfl) rfl rfl rfl (by decide +kernel) ?_
          refine Draw.take0 rfl (X.move rfl) rfl rfl rfl (by decide +kernel) ?_
          refine Draw.take0 rfl (X.nilCheck rfl) rfl rfl rfl (by decide +kernel) ?_
          refine Draw.take0 rfl (X.fieldAddr rfl rfl rfl rfl rfl rfl) rfl rfl rfl (by decide +kernel) ?_
          refine Draw.take rfl (X.load1 rfl rfl rfl rfl (.tail .head) rfl) rfl rfl rfl (by decide +kernel) ?_
          refine Draw.take0 rfl (X.fieldAddr rfl rfl rfl rfl rfl rfl) rfl rfl rfl (by decide +kernel) ?_
          refine Draw.take rfl (X.load1 rfl rfl rfl rfl (.tail (.tail .head)) rfl) rfl rfl rfl (by decide +kernel) ?_
          refine Draw.take0 rfl (X.indexAddr rfl rfl (by omega) rfl rfl rfl rfl) rfl rfl rfl (by decide +kernel) ?_
          refine Draw.take rfl (X.load1 rfl rfl rfl rfl Pick.head (by assumption)) rfl rfl rfl (by decide +kernel) ?_
          refine Draw.take0 rfl (X.fieldAddr rfl rfl rfl rfl rfl rfl) rfl rfl rfl (by decide +kernel) ?_
          refine Draw.take rfl (X.load1 rfl rfl rfl rfl (.tail (.tail .head)) rfl) rfl rfl rfl (by decide +kernel) ?_
          refine Draw.take0 rfl (X.fieldAddr rfl rfl rfl rfl rfl rfl) rfl rfl rfl (by decide +kernel) ?_
          refine Draw.take rfl (X.load1 rfl rfl rfl rfl (.tail (.tail .head)) rfl) rfl rfl rfl (by decide +kernel) ?_
          refine Draw.take0 rfl (X.buildO rfl rfl rfl rfl rfl rfl) rfl rfl rfl (by decide +kernel) ?_
          have hF := H.fr.drop1 (by rw [x00]; exact H.pick (b := g'.xb) (by first | exact .head | exact .tail .head | exact .tail (.tail .head) | exact .tail (.tail (.tail .head)) | exact .tail (.tail (.tail (.tail .head))) | exact .tail (.tail (.tail (.tail (.tail .head)))) | exact .tail (.tail (.tail (.tail (.tail (.tail .head)))))))
          have x0 := H.pick (b := g'.xb) (by first | exact .head | exact .tail .head | exact .tail (.tail .head) | exact .tail (.tail (.tail .head)) | exact .tail (.tail (.tail (.tail .head))) | exact .tail (.tail (.tail (.tail (.tail .head)))) | exact .tail (.tail (.tail (.tail (.tail (.tail .head))))))
          have r0 := H.pick (b := g'.rb) (by first | exact .head | exact .tail .head | exact .tail (.tail .head) | exact .tail (.tail (.tail .head)) | exact .tail (.tail (.tail (.tail .head))) | exact .tail (.tail (.tail (.tail (.tail .head)))) | exact .tail (.tail (.tail (.tail (.tail (.tail .head))))))
          have p5 := H.pick (b := b5) (by first | exact .head | exact .tail .head | exact .tail (.tail .head) | exact .tail (.tail (.tail .head)) | exact .tail (.tail (.tail (.tail .head))) | exact .tail (.tail (.tail (.tail (.tail .head)))) | exact .tail (.tail (.tail (.tail (.tail (.tail .head))))))
          have p8 := H.pick (b := b8) (by first | exact .head | exact .tail .head | exact .tail (.tail .head) | exact .tail (.tail (.tail .head)) | exact .tail (.tail (.tail (.tail .head))) | exact .tail (.tail (.tail (.tail (.tail .head)))) | exact .tail (.tail (.tail (.tail (.tail (.tail .head))))))
          have hsz0 := hF.size
          -- ORDERS
          refine Draw.eff2 (i := 6) (j := 21) [15, 21, 22, 23, 24] [6, 15, 22, 23, 24] rfl rfl rfl rfl (by decide +kernel) (Y.buildSliceO rfl rfl rfl rfl rfl rfl rfl rfl (Holds.start w ([] : List Nat)) ?_) (Y.buildSliceO rfl rfl rfl rfl rfl rfl rfl rfl (Holds.start w ([] : List Nat)) ?_)
          · skip
            intro bA w1_ H1 zA
            have hf1 := H1.fr
            have hA := H1.pick .head
            have hA0 := Nat.le_trans hF.size zA
            have hsz1 := hf1.size
            have hAl := lt_of_at hA
            have hAz := zA
            replace hF := hF.then hf1
            replace x0 := hf1.get x0 (by simp)
            replace r0 := hf1.get r0 (by simp)
            replace p5 := hf1.get p5 (by simp)
            replace p8 := hf1.get p8 (by simp)
            refine ⟨fun e he => by simp only [List.mem_cons, List.not_mem_nil, or_false] at he; rcases he with rfl | rfl | rfl | rfl; exact x0; exact r0; exact p5; exact p8, ?_⟩
            clear hf1 H1
            refine Draw.eff2 (i := 15) (j := 21) [21, 22, 23, 24] [15, 22, 23, 24] rfl rfl rfl rfl (by decide +kernel) (Y.copyOf2 (sz := 2) (news := (g'.box pk.to).flatMap msC) rfl rfl rfl rfl rfl rfl (((Holds.start w3 []).ext hF).add true hA (by simp) (fun _ => .inr hA0)) .head hA0 (ms_len _) ((hB3.ext hF).src) rfl (by dsimp only; omega) (by omega) rfl ?_) (Y.buildSliceO rfl rfl rfl rfl rfl rfl rfl rfl (Holds.start w1_ ([] : List Nat)) ?_)
            · skip
              intro v16 c16 w2_ H1 hf1 L16 z16 e16
              have hsz2 := hf1.size
              have hCl := L16.lt rfl
              replace hF := hF.then hf1
              replace x0 := hf1.get x0 (by simp)
              replace r0 := hf1.get r0 (by simp)
              replace p5 := hf1.get p5 (by simp)
              replace p8 := hf1.get p8 (by simp)
              refine ⟨fun e he => by simp only [List.mem_cons, List.not_mem_nil, or_false] at he; rcases he with rfl | rfl | rfl | rfl; exact x0; exact r0; exact p5; exact p8, ?_⟩
              clear hf1 H1
              refine Draw.eff (i := 21) rfl rfl (by decide +kernel) (Y.buildSliceO rfl rfl rfl rfl rfl rfl rfl rfl (Holds.start w2_ ([] : List Nat)) ?_)
              intro bB w3_ H1 zB
              have hf1 := H1.fr
              have hB := H1.pick .head
              have hsz3 := hf1.size
              have hBl := lt_of_at hB
              replace hF := hF.then hf1
              replace x0 := hf1.get x0 (by simp)
              replace r0 := hf1.get r0 (by simp)
              replace p5 := hf1.get p5 (by simp)
              replace p8 := hf1.get p8 (by simp)
              replace L16 := L16.ext hf1
              refine ⟨fun e he => by simp only [List.mem_cons, List.not_mem_nil, or_false] at he; rcases he with rfl | rfl | rfl | rfl; exact x0; exact r0; exact p5; exact p8, ?_⟩
              clear hf1 H1
              obtain ⟨a16, c16c, rfl, _⟩ := L16.slice
              have hn1 : c16 ≠ g'.xb := by obtain ⟨cs, hcs⟩ := L16.ty; exact ne_of_ty hcs x0 (by decide)
              replace H := (Holds.start w3_ [g'.xb]).add true x0 (by simp) (by simp)
              replace H := H.add false hB (by simpa using ne_of_ty hB x0 (by decide)) (by simp)
              have hne8 : b8 ≠ g'.xb := ne_of_ty p8 x0 (by decide)
              refine Draw.eff (i := 22) rfl rfl (by decide +kernel) (Y.push (sz := 2) (news := [.int .i64 (pk.fr : Nat), .slice pa pk.b.length pc]) L16 rfl rfl rfl rfl rfl rfl H (fun b hb e he => ?_) (by omega) rfl (Src.row (m := 2) H .head (Cs.take rfl)) rfl rfl (by dsimp only; omega) (by omega) rfl ?_)
              · cases hb
                simp at he
                rcases he with rfl | rfl <;> dsimp only <;> omega
              intro fb' foff fcap fcs w4_ H hc1 hc2 hc3 hc4 hob
              have hF9 := H.fr
              have x9 := H.pick (b := g'.xb) (by first | exact .head | exact .tail .head | exact .tail (.tail .head) | exact .tail (.tail (.tail .head)) | exact .tail (.tail (.tail (.tail .head))) | exact .tail (.tail (.tail (.tail (.tail .head)))) | exact .tail (.tail (.tail (.tail (.tail (.tail .head))))))
              have p59 := hF9.get p5 (by simp; exact ⟨fun e => by obtain ⟨cs, hcs⟩ := L16.ty; exact ne_of_ty p5 hcs (by decide) e, ne_of_ty p5 x0 (by decide)⟩)
              have p89 := hF9.get p8 (by simp; exact ⟨fun e => by obtain ⟨cs, hcs⟩ := L16.ty; exact ne_of_ty p8 hcs (by decide) e, ne_of_ty p8 x0 (by decide)⟩)
              have r09 := hF9.get r0 (by simp; exact ⟨fun e => by obtain ⟨cs, hcs⟩ := L16.ty; exact ne_of_ty r0 hcs (by decide) e, ne_of_ty r0 x0 (by decide)⟩)
              refine ⟨fun e he => by simp only [List.mem_cons, List.not_mem_nil, or_false] at he; rcases he with rfl | rfl | rfl | rfl; exact x9; exact r09; exact p59; exact p89, ?_⟩
              refine Draw.take0 rfl (X.indexAddr rfl rfl (by omega) rfl rfl rfl rfl) rfl rfl rfl (by decide +kernel) ?_
              refine Draw.last (i := 24) rfl rfl (by decide +kernel) (Y.storeN (vs := [.slice (some ⟨fb', foff, none⟩) ((g'.box pk.to).length + 1) fcap]) rfl rfl rfl rfl rfl rfl H (by first | exact .head | exact .tail .head | exact .tail (.tail .head) | exact .tail (.tail (.tail .head)) | exact .tail (.tail (.tail (.tail .head))) | exact .tail (.tail (.tail (.tail (.tail .head)))) | exact .tail (.tail (.tail (.tail (.tail (.tail .head)))))) (by simp; omega) rfl ?_)
              intro wz H
              (refine Draw2.done (by decide +kernel) (hK _ _ ?_); clear hK K)
              refine go (fb', foff, fcap, fcs) _ _ ⟨hF.trans H.fr (by simp) (fun x hx hl => by simp at hx ⊢; omega), by have := H.pick (b := g'.xb) (by first | exact .head | exact .tail .head | exact .tail (.tail .head) | exact .tail (.tail (.tail .head)) | exact .tail (.tail (.tail (.tail .head))) | exact .tail (.tail (.tail (.tail (.tail .head)))) | exact .tail (.tail (.tail (.tail (.tail (.tail .head)))))); simpa [putC] using this, H.pick (b := fb') (by first | exact .head | exact .tail .head | exact .tail (.tail .head) | exact .tail (.tail (.tail .head)) | exact .tail (.tail (.tail (.tail .head))) | exact .tail (.tail (.tail (.tail (.tail .head)))) | exact .tail (.tail (.tail (.tail (.tail (.tail .head)))))), ?_, hc1, hc2, hc3, hc4⟩ (by repeat (first | exact trivial | refine ⟨rfl, ?_⟩))
              rcases hob with e | e
              · cases e; omega
              · dsimp only; omega
            · skip
              intro bB w2_ H1 zB
              have hf1 := H1.fr
              have hB := H1.pick .head
              have hsz2 := hf1.size
              have hBl := lt_of_at hB
              replace hF := hF.then hf1
              replace x0 := hf1.get x0 (by simp)
              replace r0 := hf1.get r0 (by simp)
              replace p5 := hf1.get p5 (by simp)
              replace p8 := hf1.get p8 (by simp)
              replace hA := hf1.get hA (by simp)
              refine ⟨fun e he => by simp only [List.mem_cons, List.not_mem_nil, or_false] at he; rcases he with rfl | rfl | rfl | rfl; exact x0; exact r0; exact p5; exact p8, ?_⟩
              clear hf1 H1
              refine Draw.eff (i := 15) rfl rfl (by decide +kernel) (Y.copyOf2 (sz := 2) (news := (g'.box pk.to).flatMap msC) rfl rfl rfl rfl rfl rfl (((Holds.start w3 []).ext hF).add true hA (by simp) (fun _ => .inr hA0)) .head hA0 (ms_len _) ((hB3.ext hF).src) rfl (by dsimp only; omega) (by omega) rfl ?_)
              intro v16 c16 w3_ H1 hf1 L16 z16 e16
              have hsz3 := hf1.size
              have hCl := L16.lt rfl
              replace hF := hF.then hf1
              replace x0 := hf1.get x0 (by simp)
              replace r0 := hf1.get r0 (by simp)
              replace p5 := hf1.get p5 (by simp)
              replace p8 := hf1.get p8 (by simp)
              replace hB := hf1.get hB (by simp)
              refine ⟨fun e he => by simp only [List.mem_cons, List.not_mem_nil, or_false] at he; rcases he with rfl | rfl | rfl | rfl; exact x0; exact r0; exact p5; exact p8, ?_⟩
              clear hf1 H1
              obtain ⟨a16, c16c, rfl, _⟩ := L16.slice
              have hn1 : c16 ≠ g'.xb := by obtain ⟨cs, hcs⟩ := L16.ty; exact ne_of_ty hcs x0 (by decide)
              replace H := (Holds.start w3_ [g'.xb]).add true x0 (by simp) (by simp)
              replace H := H.add false hB (by simpa using ne_of_ty hB x0 (by decide)) (by simp)
              have hne8 : b8 ≠ g'.xb := ne_of_ty p8 x0 (by decide)
              refine Draw.eff (i := 22) rfl rfl (by decide +kernel) (Y.push (sz := 2) (news := [.int .i64 (pk.fr : Nat), .slice pa pk.b.length pc]) L16 rfl rfl rfl rfl rfl rfl H (fun b hb e he => ?_) (by omega) rfl (Src.row (m := 2) H .head (Cs.take rfl)) rfl rfl (by dsimp only; omega) (by omega) rfl ?_)
              · cases hb
                simp at he
                rcases he with rfl | rfl <;> dsimp only <;> omega
              intro fb' foff fcap fcs w4_ H hc1 hc2 hc3 hc4 hob
              have hF9 := H.fr
              have x9 := H.pick (b := g'.xb) (by first | exact .head | exact .tail .head | exact .tail (.tail .head) | exact .tail (.tail (.tail .head)) | exact .tail (.tail (.tail (.tail .head))) | exact .tail (.tail (.tail (.tail (.tail .head)))) | exact .tail (.tail (.tail (.tail (.tail (.tail .head))))))
              have p59 := hF9.get p5 (by simp; exact ⟨fun e => by obtain ⟨cs, hcs⟩ := L16.ty; exact ne_of_ty p5 hcs (by decide) e, ne_of_ty p5 x0 (by decide)⟩)
              have p89 := hF9.get p8 (by simp; exact ⟨fun e => by obtain ⟨cs, hcs⟩ := L16.ty; exact ne_of_ty p8 hcs (by decide) e, ne_of_ty p8 x0 (by decide)⟩)
              have r09 := hF9.get r0 (by simp; exact ⟨fun e => by obtain ⟨cs, hcs⟩ := L16.ty; exact ne_of_ty r0 hcs (by decide) e, ne_of_ty r0 x0 (by decide)⟩)
              refine ⟨fun e he => by simp only [List.mem_cons, List.not_mem_nil, or_false] at he; rcases he with rfl | rfl | rfl | rfl; exact x9; exact r09; exact p59; exact p89, ?_⟩
              refine Draw.take0 rfl (X.indexAddr rfl rfl (by omega) rfl rfl rfl rfl) rfl rfl rfl (by decide +kernel) ?_
              refine Draw.last (i := 24) rfl rfl (by decide +kernel) (Y.storeN (vs := [.slice (some ⟨fb', foff, none⟩) ((g'.box pk.to).length + 1) fcap]) rfl rfl rfl rfl rfl rfl H (by first | exact .head | exact .tail .head | exact .tail (.tail .head) | exact .tail (.tail (.tail .head)) | exact .tail (.tail (.tail (.tail .head))) | exact .tail (.tail (.tail (.tail (.tail .head)))) | exact .tail (.tail (.tail (.tail (.tail (.tail .head)))))) (by simp; omega) rfl ?_)
              intro wz H
              (refine Draw2.done (by decide +kernel) (hK _ _ ?_); clear hK K)
              refine go (fb', foff, fcap, fcs) _ _ ⟨hF.trans H.fr (by simp) (fun x hx hl => by simp at hx ⊢; omega), by have := H.pick (b := g'.xb) (by first | exact .head | exact .tail .head | exact .tail (.tail .head) | exact .tail (.tail (.tail .head)) | exact .tail (.tail (.tail (.tail .head))) | exact .tail (.tail (.tail (.tail (.tail .head)))) | exact .tail (.tail (.tail (.tail (.tail (.tail .head)))))); simpa [putC] using this, H.pick (b := fb') (by first | exact .head | exact .tail .head | exact .tail (.tail .head) | exact .tail (.tail (.tail .head)) | exact .tail (.tail (.tail (.tail .head))) | exact .tail (.tail (.tail (.tail (.tail .head)))) | exact .tail (.tail (.tail (.tail (.tail (.tail .head)))))), ?_, hc1, hc2, hc3, hc4⟩ (by repeat (first | exact trivial | refine ⟨rfl, ?_⟩))
              rcases hob with e | e
              · cases e; omega
              · dsimp only; omega
          · skip
            intro bB w1_ H1 zB
            have hf1 := H1.fr
            have hB := H1.pick .head
            have hsz1 := hf1.size
            have hBl := lt_of_at hB
            replace hF := hF.then hf1
            replace x0 := hf1.get x0 (by simp)
            replace r0 := hf1.get r0 (by simp)
            replace p5 := hf1.get p5 (by simp)
            replace p8 := hf1.get p8 (by simp)
            refine ⟨fun e he => by simp only [List.mem_cons, List.not_mem_nil, or_false] at he; rcases he with rfl | rfl | rfl | rfl; exact x0; exact r0; exact p5; exact p8, ?_⟩
            clear hf1 H1
            refine Draw.eff (i := 6) rfl rfl (by decide +kernel) (Y.buildSliceO rfl rfl rfl rfl rfl rfl rfl rfl (Holds.start w1_ ([] : List Nat)) ?_)
            intro bA w2_ H1 zA
            have hf1 := H1.fr
            have hA := H1.pick .head
            have hA0 := Nat.le_trans hF.size zA
            have hsz2 := hf1.size
            have hAl := lt_of_at hA
            have hAz := zA
            replace hF := hF.then hf1
            replace x0 := hf1.get x0 (by simp)
            replace r0 := hf1.get r0 (by simp)
            replace p5 := hf1.get p5 (by simp)
            replace p8 := hf1.get p8 (by simp)
            replace hB := hf1.get hB (by simp)
            refine ⟨fun e he => by simp only [List.mem_cons, List.not_mem_nil, or_false] at he; rcases he with rfl | rfl | rfl | rfl; exact x0; exact r0; exact p5; exact p8, ?_⟩
            clear hf1 H1
            refine Draw.eff (i := 15) rfl rfl (by decide +kernel) (Y.copyOf2 (sz := 2) (news := (g'.box pk.to).flatMap msC) rfl rfl rfl rfl rfl rfl (((Holds.start w3 []).ext hF).add true hA (by simp) (fun _ => .inr hA0)) .head hA0 (ms_len _) ((hB3.ext hF).src) rfl (by dsimp only; omega) (by omega) rfl ?_)
            intro v16 c16 w3_ H1 hf1 L16 z16 e16
            have hsz3 := hf1.size
            have hCl := L16.lt rfl
            replace hF := hF.then hf1
            replace x0 := hf1.get x0 (by simp)
            replace r0 := hf1.get r0 (by simp)
            replace p5 := hf1.get p5 (by simp)
            replace p8 := hf1.get p8 (by simp)
            replace hB := hf1.get hB (by simp)
            refine ⟨fun e he => by simp only [List.mem_cons, List.not_mem_nil, or_false] at he; rcases he with rfl | rfl | rfl | rfl; exact x0; exact r0; exact p5; exact p8, ?_⟩
            clear hf1 H1
            obtain ⟨a16, c16c, rfl, _⟩ := L16.slice
            have hn1 : c16 ≠ g'.xb := by obtain ⟨cs, hcs⟩ := L16.ty; exact ne_of_ty hcs x0 (by decide)
            replace H := (Holds.start w3_ [g'.xb]).add true x0 (by simp) (by simp)
            replace H := H.add false hB (by simpa using ne_of_ty hB x0 (by decide)) (by simp)
            have hne8 : b8 ≠ g'.xb := ne_of_ty p8 x0 (by decide)
            refine Draw.eff (i := 22) rfl rfl (by decide +kernel) (Y.push (sz := 2) (news := [.int .i64 (pk.fr : Nat), .slice pa pk.b.length pc]) L16 rfl rfl rfl rfl rfl rfl H (fun b hb e he => ?_) (by omega) rfl (Src.row (m := 2) H .head (Cs.take rfl)) rfl rfl (by dsimp only; omega) (by omega) rfl ?_)
            · cases hb
              simp at he
              rcases he with rfl | rfl <;> dsimp only <;> omega
            intro fb' foff fcap fcs w4_ H hc1 hc2 hc3 hc4 hob
            have hF9 := H.fr
            have x9 := H.pick (b := g'.xb) (by first | exact .head | exact .tail .head | exact .tail (.tail .head) | exact .tail (.tail (.tail .head)) | exact .tail (.tail (.tail (.tail .head))) | exact .tail (.tail (.tail (.tail (.tail .head)))) | exact .tail (.tail (.tail (.tail (.tail (.tail .head))))))
            have p59 := hF9.get p5 (by simp; exact ⟨fun e => by obtain ⟨cs, hcs⟩ := L16.ty; exact ne_of_ty p5 hcs (by decide) e, ne_of_ty p5 x0 (by decide)⟩)
            have p89 := hF9.get p8 (by simp; exact ⟨fun e => by obtain ⟨cs, hcs⟩ := L16.ty; exact ne_of_ty p8 hcs (by decide) e, ne_of_ty p8 x0 (by decide)⟩)
            have r09 := hF9.get r0 (by simp; exact ⟨fun e => by obtain ⟨cs, hcs⟩ := L16.ty; exact ne_of_ty r0 hcs (by decide) e, ne_of_ty r0 x0 (by decide)⟩)
            refine ⟨fun e he => by simp only [List.mem_cons, List.not_mem_nil, or_false] at he; rcases he with rfl | rfl | rfl | rfl; exact x9; exact r09; exact p59; exact p89, ?_⟩
            refine Draw.take0 rfl (X.indexAddr rfl rfl (by omega) rfl rfl rfl rfl) rfl rfl rfl (by decide +kernel) ?_
            refine Draw.last (i := 24) rfl rfl (by decide +kernel) (Y.storeN (vs := [.slice (some ⟨fb', foff, none⟩) ((g'.box pk.to).length + 1) fcap]) rfl rfl rfl rfl rfl rfl H (by first | exact .head | exact .tail .head | exact .tail (.tail .head) | exact .tail (.tail (.tail .head)) | exact .tail (.tail (.tail (.tail .head))) | exact .tail (.tail (.tail (.tail (.tail .head)))) | exact .tail (.tail (.tail (.tail (.tail (.tail .head)))))) (by simp; omega) rfl ?_)
            intro wz H
            (refine Draw2.done (by decide +kernel) (hK _ _ ?_); clear hK K)
            refine go (fb', foff, fcap, fcs) _ _ ⟨hF.trans H.fr (by simp) (fun x hx hl => by simp at hx ⊢; omega), by have := H.pick (b := g'.xb) (by first | exact .head | exact .tail .head | exact .tail (.tail .head) | exact .tail (.tail (.tail .head)) | exact .tail (.tail (.tail (.tail .head))) | exact .tail (.tail (.tail (.tail (.tail .head)))) | exact .tail (.tail (.tail (.tail (.tail (.tail .head)))))); simpa [putC] using this, H.pick (b := fb') (by first | exact .head | exact .tail .head | exact .tail (.tail .head) | exact .tail (.tail (.tail .head)) | exact .tail (.tail (.tail (.tail .head))) | exact .tail (.tail (.tail (.tail (.tail .head)))) | exact .tail (.tail (.tail (.tail (.tail (.tail .head)))))), ?_, hc1, hc2, hc3, hc4⟩ (by repeat (first | exact trivial | refine ⟨rfl, ?_⟩))
            rcases hob with e | e
            · cases e; omega
            · dsimp only; omega
          -- END
      · have hokl := hok'.fly.1
        refine Ops.eff rfl (Y.call rfl rfl (by first | assumption | decide +kernel) rfl (rfly_any _ g' ⟨pk.to, pk.fr, true, W.came, pk.ep, []⟩ (.slice none 0 0) rfl (hR.ext (H.fr.drop1 (by rw [r1]; exact H.pick (b := g'.rows pk.fr) (by first | exact .head | exact .tail .head | exact .tail (.tail .head) | exact .tail (.tail (.tail .head)) | exact .tail (.tail (.tail (.tail .head))) | exact .tail (.tail (.tail (.tail (.tail .head)))) | exact .tail (.tail (.tail (.tail (.tail (.tail .head))))))))) Bts.nil (by simp [blkV]) (by rw [← rfly_len]; exact hokl)) rfl ?_)
        rintro v w5 ⟨g4, st4, hab4, _⟩
        replace st4 := st.trans (.pre hR (H.fr.drop1 (by rw [r1]; exact H.pick (b := g'.rows pk.fr) (by first | exact .head | exact .tail .head | exact .tail (.tail .head) | exact .tail (.tail (.tail .head)) | exact .tail (.tail (.tail (.tail .head))) | exact .tail (.tail (.tail (.tail (.tail .head)))) | exact .tail (.tail (.tail (.tail (.tail (.tail .head)))))))) st4)
        clear H
        have H := Holds.start w5 []
        (refine Ops.nil (hK _ _ ?_); clear hK K)
        refine Run.seq ?_
        (refine Run.region ?_; intro K hK)
        refine Ops.pure H (X.assign rfl) rfl rfl rfl ?_
        (refine Ops.nil (hK _ _ ?_); clear hK K)
        (first | refine Fn.ret1 HF rfl rfl ?_ | refine Fn.ret2 HF rfl rfl rfl ?_ | refine Fn.ret3 HF rfl rfl rfl rfl ?_ | refine Fn.ret0 HF rfl ?_ | refine Fn.fin0 HF rfl ?_ | refine Fn.retG (E := env) HF rfl H (by first | exact RVs.cellN rfl rfl rfl (by first | exact .head | exact .tail .head | exact .tail (.tail .head) | exact .tail (.tail (.tail .head)) | exact .tail (.tail (.tail (.tail .head))) | exact .tail (.tail (.tail (.tail (.tail .head)))) | exact .tail (.tail (.tail (.tail (.tail (.tail .head)))))) (by first | assumption | exact Cs.take rfl) RVs.nil | exact RVs.cellN rfl rfl rfl (by first | exact .head | exact .tail .head | exact .tail (.tail .head) | exact .tail (.tail (.tail .head)) | exact .tail (.tail (.tail (.tail .head))) | exact .tail (.tail (.tail (.tail (.tail .head)))) | exact .tail (.tail (.tail (.tail (.tail (.tail .head)))))) (by first | assumption | exact Cs.take rfl) (RVs.tmp rfl RVs.nil) | exact RVs.cellN rfl rfl rfl (by first | exact .head | exact .tail .head | exact .tail (.tail .head) | exact .tail (.tail (.tail .head)) | exact .tail (.tail (.tail (.tail .head))) | exact .tail (.tail (.tail (.tail (.tail .head)))) | exact .tail (.tail (.tail (.tail (.tail (.tail .head)))))) (by first | assumption | exact Cs.take rfl) (RVs.tmp rfl (RVs.tmp rfl RVs.nil))) rfl ?_)
        refine ⟨by rw [hE], g4, st4.ext H.fr, ?_⟩
        rw [hab4, hD]
        dsimp only at h95 h102
        unfold Ns.gets
        rw [hW0, if_pos (by dsimp only [absR]; omega), if_neg (by dsimp only [absR]; omega), hW0]
        simp [absR]
end Go.Proofs.Ytpmihcefjdeonaa
