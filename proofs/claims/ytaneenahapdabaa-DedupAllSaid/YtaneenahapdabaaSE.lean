/- The library's sort, walked: breakPatterns. -/
import Derived.Test.YtaneenahapdabaaSD
namespace Go.Proofs.Ytaneenahapdabaa
open Go
set_option maxRecDepth 20000
set_option maxHeartbeats 2000000
attribute [local irreducible] Run Ops Fn Draw Draw2 PureOp StepZ

theorem brk_any (z : World) (blk off cap : Nat) (d : Array Int) (cs : List Value) (a b : Nat) {n : Nat} (hn : d.size = n) (h : Ar z blk off d cs) (hab : a ≤ b) (hb : b ≤ n) (hm : n ≤ 2305843009213693951) :
    Fn env.P 68 [.slice (some ⟨blk, off, none⟩) n cap, .int .i64 (a : Nat), .int .i64 (b : Nat)] z fun _ w' => ∃ d' cs', Ar w' blk off d' cs' ∧ d'.size = n ∧ Sort.PermIn a b d d' ∧ Fr z w' [blk] := by
  have hbl := lt_of_at h.hb
  have H := Holds.start z []
  have HF := Try.func68; refine Fn.enter Try.func68 Try.ntmps68 rfl rfl rfl ?_
  by_cases h8 : 8 ≤ b - a
  · refine Run.seq ?_
    (refine Run.region ?_; intro K hK)
    refine Ops.pure H (X.move rfl) rfl rfl rfl ?_
    refine Ops.pure H (X.move rfl) rfl rfl rfl ?_
    refine Ops.pure H (X.subN rfl rfl rfl rfl (by omega) (IntWalk.i64_in _ (by omega))) rfl rfl rfl ?_
    refine Ops.pure H (X.assign rfl) rfl rfl rfl ?_
    (refine Ops.nil (hK _ _ (Run.seq (Run.region ?_))); clear hK K; intro K hK)
    refine Ops.pure H (X.move rfl) rfl rfl rfl ?_
    refine Ops.pure H (X.cmp rfl rfl rfl) rfl rfl rfl ?_
    (refine Ops.nil (hK _ _ ?_); clear hK K)
    refine Run.cond_dec rfl (fun h15 => ?x0) (fun h15 => ?y0)
    case' y0 => exfalso; omega
    case' x0 =>
      (refine Run.seq (Run.region ?_); intro K hK)
      refine Ops.pure H (X.move rfl) rfl rfl rfl ?_
      refine Ops.pure H (X.conv rfl rfl rfl rfl rfl (u64_in _ (by omega))) rfl rfl rfl ?_
      (refine Ops.eff rfl (Y.alloc rfl rfl rfl H ?_); intro b7 w H0 hb7; clear H; have H := H0; clear H0)
      (refine Ops.eff rfl (Y.store1 rfl rfl rfl rfl rfl rfl H Upd.head (by repeat (first | exact SetC.zero | apply SetC.succ)) ?_); intro w H0; clear H; have H := H0; clear H0)
      (refine Ops.nil (hK _ _ (Run.seq (Run.region ?_))); clear hK K; intro K hK)
      refine Ops.pure H (X.move rfl) rfl rfl rfl ?_
    obtain ⟨rb, hrb⟩ : ∃ rb, rb = b7 := ⟨_, rfl⟩
    subst hrb
    have k0 := H.pick (b := rb) (by repeat (first | exact .head | apply Pick.tail))
    have f0 := H.fr
    refine Ops.eff rfl (Y.call rfl rfl (by first | assumption | decide +kernel) rfl (npow_any _ (b - a) (by omega) (by omega)) rfl ?_)
    rintro v w1 ⟨m, rfl, hm0, hm2, hf1⟩
    replace H := H.ext hf1
    have hA := h.ext H.fr
    refine Ops.pure H (X.assign rfl) rfl rfl rfl ?_
    (refine Ops.nil (hK _ _ (Run.seq (Run.region ?_))); clear hK K; intro K hK)
    refine Ops.pure H (X.move rfl) rfl rfl rfl ?_
    refine Ops.pure H (X.move rfl) rfl rfl rfl ?_
    refine Ops.pure H (X.quoN (j := 4) rfl rfl rfl rfl (by omega) (IntWalk.i64_in _ (by omega))) rfl rfl rfl ?_
    refine Ops.pure H (X.mulN (j := 2) rfl rfl rfl rfl (IntWalk.i64_in _ (by omega))) rfl rfl rfl ?_
    refine Ops.pure H (X.addN rfl rfl rfl rfl (IntWalk.i64_in _ (by omega))) rfl rfl rfl ?_
    refine Ops.pure H (X.subN (j := 1) rfl rfl rfl rfl (by omega) (IntWalk.i64_in _ (by omega))) rfl rfl rfl ?_
    refine Ops.pure H (X.assign rfl) rfl rfl rfl ?_
    (refine Ops.nil (hK _ _ ?_); clear hK K)
    refine Run.block ?_
    have hF := H.fr
    have k1 := H.pick (b := rb) (by repeat (first | exact .head | apply Pick.tail))
    clear H
    refine Run.rounds (fun (i : Nat) => [(0, .slice (some ⟨blk, off, none⟩) n cap), (1, .int .i64 (a : Nat)), (6, .int .i64 ((b - a : Nat) : Nat)), (7, .pointer (some ⟨rb, 0, none⟩)), (8, .int .u64 (m : Nat)), (9, .int .i64 (i : Nat))])
      (fun i w' => a ≤ i ∧ ∃ (d' : Array Int) (cs' : List Value) (r : Nat), Ar w' blk off d' cs' ∧ d'.size = n ∧ Sort.PermIn a b d d' ∧ w'.heap[rb]? = some (row [.int .u64 (r : Nat)] 124) ∧ r < 18446744073709551616 ∧ Fr z w' [blk]) (fun i => a + b - i) (a + (b - a) / 4 * 2 - 1) (by repeat (first | exact trivial | refine ⟨rfl, ?_⟩)) ⟨by omega, d, cs, b - a, hA, hn, Sort.permIn_refl d a b, k1, by omega, hF.mono (by simp)⟩ ?_
    rintro i w2 ⟨hi, d2, cs2, r, h2, hs2, hp2, kr, hr, hf2⟩ IH
    by_cases hle : i ≤ a + (b - a) / 4 * 2 + 1
    · have nrb : rb ≠ blk := by omega
      have H := ((Holds.start w2 [rb, blk]).add true h2.hb (by simp) (by simp)).add true kr (by simpa using nrb) (by simp)
      refine Run.seq ?_
      (refine Run.seq (Run.region ?_); intro K hK)
      refine Ops.pure H (X.move rfl) rfl rfl rfl ?_
      refine Ops.pure H (X.move rfl) rfl rfl rfl ?_
      refine Ops.pure H (X.move rfl) rfl rfl rfl ?_
      refine Ops.pure H (X.quoN (j := 4) rfl rfl rfl rfl (by omega) (IntWalk.i64_in _ (by omega))) rfl rfl rfl ?_
      refine Ops.pure H (X.mulN (j := 2) rfl rfl rfl rfl (IntWalk.i64_in _ (by omega))) rfl rfl rfl ?_
      refine Ops.pure H (X.addN rfl rfl rfl rfl (IntWalk.i64_in _ (by omega))) rfl rfl rfl ?_
      refine Ops.pure H (X.succ rfl rfl (by omega)) rfl rfl rfl ?_
      refine Ops.pure H (X.cmp rfl rfl rfl) rfl rfl rfl ?_
      (refine Ops.nil (hK _ _ ?_); clear hK K)
      refine Run.cond_dec rfl (fun h33 => ?x1) (fun h33 => ?y1)
      case' y1 => exfalso; omega
      case' x1 =>
        refine Run.skip ?_
        refine Run.seq ?_
        refine Run.block ?_
        (refine Run.seq (Run.region ?_); intro K hK)
      refine Ops.eff rfl (Y.call rfl rfl (by first | assumption | decide +kernel) rfl (next_any _ rb r (H.pick (b := rb) (by repeat (first | exact .head | apply Pick.tail))) hr) rfl ?_)
      rintro v w3 ⟨r2, rfl, hr2, kr3, hf3⟩
      have F3 := hf2.trans (U := [blk]) (H.fr.trans (U := [rb, blk]) hf3 (by simp) (by simp)) (by simp) (fun x hx hl => by simp at hx ⊢; omega)
      have h3 := h2.keepH (H.fr.trans (U := [rb, blk]) hf3 (by simp) (by simp)) (hf3.get (H.pick (b := blk) (by repeat (first | exact .head | apply Pick.tail))) (by simpa using nrb.symm))
      have hand : r2 &&& (m - 1) ≤ m - 1 := Nat.and_le_right
      clear H
      obtain ⟨q, hq⟩ : ∃ q, q = r2 &&& (m - 1) := ⟨_, rfl⟩
      rw [← hq] at hand
      by_cases hge : b - a ≤ q
      · have H := ((Holds.start w3 [rb, blk]).add true h3.hb (by simp) (by simp)).add true kr3 (by simpa using nrb) (by simp)
        have c1 := h3.hc i (by omega)
        have c2 := h3.hc (a + (q - (b - a))) (by omega)
        have hl3 := h3.hl
        refine Ops.pure H (X.move rfl) rfl rfl rfl ?_
        refine Ops.pure H (X.subN (j := 1) rfl rfl rfl rfl (by omega) (u64_in _ (by omega))) rfl rfl rfl ?_
        refine Ops.pure H (X.andN rfl rfl rfl rfl (by omega) (by omega)) rfl rfl rfl ?_
        refine Ops.pure H (X.conv rfl rfl rfl rfl rfl (IntWalk.i64_in _ (by omega))) rfl rfl rfl ?_
        refine Ops.pure H (X.assign rfl) rfl rfl rfl ?_
        (refine Ops.nil (hK _ _ ?_); clear hK K)
        rw [← hq]
        have hcv : IntKind.i64.wrap ((q : Nat) : Int) = ((q : Nat) : Int) := IntWalk.i64_in _ (by omega)
        refine Run.seq ?_
        (refine Run.seq (Run.region ?_); intro K hK)
        refine Ops.pure H (X.move rfl) rfl rfl rfl ?_
        refine Ops.pure H (X.move rfl) rfl rfl rfl ?_
        refine Ops.pure H (X.cmp rfl rfl rfl) rfl rfl rfl ?_
        (refine Ops.nil (hK _ _ ?_); clear hK K)
        refine Run.cond_dec rfl (fun h43 => ?x2) (fun h43 => ?y2)
        case' y2 => exfalso; omega
        case' x2 =>
          (refine Run.region ?_; intro K hK)
          refine Ops.pure H (X.move rfl) rfl rfl rfl ?_
          refine Ops.pure H (X.move rfl) rfl rfl rfl ?_
          refine Ops.pure H (X.subN rfl rfl rfl rfl (by omega) (IntWalk.i64_in _ (by omega))) rfl rfl rfl ?_
          refine Ops.pure H (X.assign rfl) rfl rfl rfl ?_
          (refine Ops.nil (hK _ _ ?_); clear hK K)
          (refine Run.draw H [17, 19] [0, 1, 2, 3, 4, 5, 6, 7, 8, 9, 10, 11, 12, 13, 14, 15, 16, 17, 18, 19] ?_; clear H; intro K hK w H)
          refine Draw.take0 rfl (X.move rfl) rfl rfl rfl (by decide +kernel) ?_
          refine Draw.take0 rfl (X.move rfl) rfl rfl rfl (by decide +kernel) ?_
          refine Draw.take0 rfl (X.move rfl) rfl rfl rfl (by decide +kernel) ?_
          refine Draw.take0 rfl (X.move rfl) rfl rfl rfl (by decide +kernel) ?_
          refine Draw.take0 rfl (X.move rfl) rfl rfl rfl (by decide +kernel) ?_
          refine Draw.take0 rfl (X.addN rfl rfl rfl rfl (IntWalk.i64_in _ (by omega))) rfl rfl rfl (by decide +kernel) ?_
          refine Draw.take0 rfl (X.move rfl) rfl rfl rfl (by decide +kernel) ?_
          refine Draw.take0 rfl (X.move rfl) rfl rfl rfl (by decide +kernel) ?_
          refine Draw.take0 rfl (X.move rfl) rfl rfl rfl (by decide +kernel) ?_
          refine Draw.take0 rfl (X.addN rfl rfl rfl rfl (IntWalk.i64_in _ (by omega))) rfl rfl rfl (by decide +kernel) ?_
          refine Draw.take0 rfl (X.indexAddr rfl rfl (by omega) rfl rfl rfl rfl) rfl rfl rfl (by decide +kernel) ?_
          refine Draw.take rfl (X.load1 rfl rfl rfl rfl (.tail .head) (by assumption)) rfl rfl rfl (by decide +kernel) ?_
          refine Draw.take0 rfl (X.move rfl) rfl rfl rfl (by decide +kernel) ?_
          refine Draw.take0 rfl (X.move rfl) rfl rfl rfl (by decide +kernel) ?_
          refine Draw.take0 rfl (X.indexAddr rfl rfl (by omega) rfl rfl rfl rfl) rfl rfl rfl (by decide +kernel) ?_
          refine Draw.take rfl (X.load1 rfl rfl rfl rfl (.tail .head) (by assumption)) rfl rfl rfl (by decide +kernel) ?_
          refine Draw.take0 rfl (X.indexAddr rfl rfl (by omega) rfl rfl rfl rfl) rfl rfl rfl (by decide +kernel) ?_
          (refine Draw.last rfl rfl (by decide +kernel) (Y.storeI rfl rfl rfl rfl rfl rfl H (.tail .head) (by first | omega | (simp only [List.length_set]; omega)) ?_); intro w H0; clear H; have H := H0; clear H0)
          refine Draw2.take rfl (X.indexAddr rfl rfl (by omega) rfl rfl rfl rfl) rfl rfl rfl (by decide +kernel) ?_
          (refine Draw2.eff rfl rfl (by decide +kernel) (Y.storeI rfl rfl rfl rfl rfl rfl H (.tail .head) (by first | omega | (simp only [List.length_set]; omega)) ?_); intro w H0; clear H; have H := H0; clear H0)
          (refine Draw2.done (by decide +kernel) (hK _ _ ?_); clear hK K)
          refine Run.inBlock ?_
          (refine Run.region ?_; intro K hK)
          refine Ops.pure H (X.move rfl) rfl rfl rfl ?_
          refine Ops.pure H (X.succ rfl rfl (by omega)) rfl rfl rfl ?_
          refine Ops.pure H (X.assign rfl) rfl rfl rfl ?_
          (refine Ops.nil (hK _ _ ?_); clear hK K)
        have h4 := h3.swp1 (i := i) (j := a + (q - (b - a))) (by omega) (by omega) (H.pick (b := blk) (by repeat (first | exact .head | apply Pick.tail)))
        exact (IH (i + 1) _ (by omega) ⟨by omega, _, _, r2, h4, by rw [swp_size]; exact hs2, Sort.permIn_trans _ _ _ _ _ hp2 (Sort.swp_permIn d2 a b i (a + (q - (b - a))) (by omega) (by omega) (by omega) (by omega) (by omega)), H.pick (b := rb) (by repeat (first | exact .head | apply Pick.tail)), hr2, F3.trans H.fr (by simp) (fun x hx hl => by simp at hx ⊢; omega)⟩).weak (by repeat (first | exact trivial | refine ⟨rfl, ?_⟩))
      · have H := ((Holds.start w3 [rb, blk]).add true h3.hb (by simp) (by simp)).add true kr3 (by simpa using nrb) (by simp)
        have c1 := h3.hc i (by omega)
        have c2 := h3.hc (a + q) (by omega)
        have hl3 := h3.hl
        refine Ops.pure H (X.move rfl) rfl rfl rfl ?_
        refine Ops.pure H (X.subN (j := 1) rfl rfl rfl rfl (by omega) (u64_in _ (by omega))) rfl rfl rfl ?_
        refine Ops.pure H (X.andN rfl rfl rfl rfl (by omega) (by omega)) rfl rfl rfl ?_
        refine Ops.pure H (X.conv rfl rfl rfl rfl rfl (IntWalk.i64_in _ (by omega))) rfl rfl rfl ?_
        refine Ops.pure H (X.assign rfl) rfl rfl rfl ?_
        (refine Ops.nil (hK _ _ ?_); clear hK K)
        rw [← hq]
        refine Run.seq ?_
        (refine Run.seq (Run.region ?_); intro K hK)
        refine Ops.pure H (X.move rfl) rfl rfl rfl ?_
        refine Ops.pure H (X.move rfl) rfl rfl rfl ?_
        refine Ops.pure H (X.cmp rfl rfl rfl) rfl rfl rfl ?_
        (refine Ops.nil (hK _ _ ?_); clear hK K)
        refine Run.cond_dec rfl (fun h43 => ?x3) (fun h43 => ?y3)
        case' y3 =>
          refine Run.skip ?_
          (refine Run.draw H [17, 19] [0, 1, 2, 3, 4, 5, 6, 7, 8, 9, 10, 11, 12, 13, 14, 15, 16, 17, 18, 19] ?_; clear H; intro K hK w H)
          refine Draw.take0 rfl (X.move rfl) rfl rfl rfl (by decide +kernel) ?_
          refine Draw.take0 rfl (X.move rfl) rfl rfl rfl (by decide +kernel) ?_
          refine Draw.take0 rfl (X.move rfl) rfl rfl rfl (by decide +kernel) ?_
          refine Draw.take0 rfl (X.move rfl) rfl rfl rfl (by decide +kernel) ?_
          refine Draw.take0 rfl (X.move rfl) rfl rfl rfl (by decide +kernel) ?_
          refine Draw.take0 rfl (X.addN rfl rfl rfl rfl (IntWalk.i64_in _ (by omega))) rfl rfl rfl (by decide +kernel) ?_
          refine Draw.take0 rfl (X.move rfl) rfl rfl rfl (by decide +kernel) ?_
          refine Draw.take0 rfl (X.move rfl) rfl rfl rfl (by decide +kernel) ?_
          refine Draw.take0 rfl (X.move rfl) rfl rfl rfl (by decide +kernel) ?_
          refine Draw.take0 rfl (X.addN rfl rfl rfl rfl (IntWalk.i64_in _ (by omega))) rfl rfl rfl (by decide +kernel) ?_
          refine Draw.take0 rfl (X.indexAddr rfl rfl (by omega) rfl rfl rfl rfl) rfl rfl rfl (by decide +kernel) ?_
          refine Draw.take rfl (X.load1 rfl rfl rfl rfl (.tail .head) (by assumption)) rfl rfl rfl (by decide +kernel) ?_
          refine Draw.take0 rfl (X.move rfl) rfl rfl rfl (by decide +kernel) ?_
          refine Draw.take0 rfl (X.move rfl) rfl rfl rfl (by decide +kernel) ?_
          refine Draw.take0 rfl (X.indexAddr rfl rfl (by omega) rfl rfl rfl rfl) rfl rfl rfl (by decide +kernel) ?_
          refine Draw.take rfl (X.load1 rfl rfl rfl rfl (.tail .head) (by assumption)) rfl rfl rfl (by decide +kernel) ?_
          refine Draw.take0 rfl (X.indexAddr rfl rfl (by omega) rfl rfl rfl rfl) rfl rfl rfl (by decide +kernel) ?_
          (refine Draw.last rfl rfl (by decide +kernel) (Y.storeI rfl rfl rfl rfl rfl rfl H (.tail .head) (by first | omega | (simp only [List.length_set]; omega)) ?_); intro w H0; clear H; have H := H0; clear H0)
          refine Draw2.take rfl (X.indexAddr rfl rfl (by omega) rfl rfl rfl rfl) rfl rfl rfl (by decide +kernel) ?_
          (refine Draw2.eff rfl rfl (by decide +kernel) (Y.storeI rfl rfl rfl rfl rfl rfl H (.tail .head) (by first | omega | (simp only [List.length_set]; omega)) ?_); intro w H0; clear H; have H := H0; clear H0)
          (refine Draw2.done (by decide +kernel) (hK _ _ ?_); clear hK K)
          refine Run.inBlock ?_
          (refine Run.region ?_; intro K hK)
          refine Ops.pure H (X.move rfl) rfl rfl rfl ?_
          refine Ops.pure H (X.succ rfl rfl (by omega)) rfl rfl rfl ?_
          refine Ops.pure H (X.assign rfl) rfl rfl rfl ?_
          (refine Ops.nil (hK _ _ ?_); clear hK K)
        case' x3 => exfalso; omega
        have h4 := h3.swp1 (i := i) (j := a + q) (by omega) (by omega) (H.pick (b := blk) (by repeat (first | exact .head | apply Pick.tail)))
        exact (IH (i + 1) _ (by omega) ⟨by omega, _, _, r2, h4, by rw [swp_size]; exact hs2, Sort.permIn_trans _ _ _ _ _ hp2 (Sort.swp_permIn d2 a b i (a + q) (by omega) (by omega) (by omega) (by omega) (by omega)), H.pick (b := rb) (by repeat (first | exact .head | apply Pick.tail)), hr2, F3.trans H.fr (by simp) (fun x hx hl => by simp at hx ⊢; omega)⟩).weak (by repeat (first | exact trivial | refine ⟨rfl, ?_⟩))
    · have H := Holds.start w2 []
      refine Run.seq ?_
      (refine Run.seq (Run.region ?_); intro K hK)
      refine Ops.pure H (X.move rfl) rfl rfl rfl ?_
      refine Ops.pure H (X.move rfl) rfl rfl rfl ?_
      refine Ops.pure H (X.move rfl) rfl rfl rfl ?_
      refine Ops.pure H (X.quoN (j := 4) rfl rfl rfl rfl (by omega) (IntWalk.i64_in _ (by omega))) rfl rfl rfl ?_
      refine Ops.pure H (X.mulN (j := 2) rfl rfl rfl rfl (IntWalk.i64_in _ (by omega))) rfl rfl rfl ?_
      refine Ops.pure H (X.addN rfl rfl rfl rfl (IntWalk.i64_in _ (by omega))) rfl rfl rfl ?_
      refine Ops.pure H (X.succ rfl rfl (by omega)) rfl rfl rfl ?_
      refine Ops.pure H (X.cmp rfl rfl rfl) rfl rfl rfl ?_
      (refine Ops.nil (hK _ _ ?_); clear hK K)
      refine Run.cond_dec rfl (fun h33 => ?x4) (fun h33 => ?y4)
      case' y4 =>
        refine Run.exit rfl ?_
      case' x4 => exfalso; omega
      (first | refine Fn.ret0 HF rfl ?_ | refine Fn.fin0 HF rfl ?_)
      exact ⟨d2, cs2, h2.ext H.fr, hs2, hp2, hf2.trans H.fr (by simp) (by simp)⟩
  · refine Run.seq ?_
    (refine Run.region ?_; intro K hK)
    refine Ops.pure H (X.move rfl) rfl rfl rfl ?_
    refine Ops.pure H (X.move rfl) rfl rfl rfl ?_
    refine Ops.pure H (X.subN rfl rfl rfl rfl (by omega) (IntWalk.i64_in _ (by omega))) rfl rfl rfl ?_
    refine Ops.pure H (X.assign rfl) rfl rfl rfl ?_
    (refine Ops.nil (hK _ _ (Run.seq (Run.region ?_))); clear hK K; intro K hK)
    refine Ops.pure H (X.move rfl) rfl rfl rfl ?_
    refine Ops.pure H (X.cmp rfl rfl rfl) rfl rfl rfl ?_
    (refine Ops.nil (hK _ _ ?_); clear hK K)
    refine Run.cond_dec rfl (fun h15 => ?x5) (fun h15 => ?y5)
    case' y5 =>
      refine Run.skip ?_
    case' x5 => exfalso; omega
    (first | refine Fn.ret0 HF rfl ?_ | refine Fn.fin0 HF rfl ?_)
    exact ⟨d, cs, h.ext H.fr, hn, Sort.permIn_refl d a b, H.fr.mono (by simp)⟩
end Go.Proofs.Ytaneenahapdabaa
