/- Walks of layer 6: New. -/
import Derived.Test.YtpmihcefjdeonaaNF
namespace Go.Proofs.Ytpmihcefjdeonaa
open Go
set_option maxRecDepth 20000
set_option maxHeartbeats 2000000
attribute [local irreducible] Run Ops Fn Draw Draw2 PureOp StepZ

def ns0 (n : Nat) : Ns := ⟨n, fun i => decide (i < n), fun _ => wy0, [], fun _ => []⟩
theorem new_no (z : World) (n : Int) (h : ¬ (1 ≤ n ∧ n ≤ 64)) : Fn env.P 24 [.int .i64 n] z fun v w' => v = .tuple #[.pointer none, .int .i64 1] ∧ w' = z := by
  have H := Holds.start z []
  have HF := Try.func24; refine Fn.enter Try.func24 Try.ntmps24 rfl rfl rfl ?_
  refine Run.seq ?_
  (refine Run.region ?_; intro K hK)
  refine Ops.pure H (X.assign rfl) rfl rfl rfl ?_
  refine Ops.pure H (X.assign rfl) rfl rfl rfl ?_
  (refine Ops.nil (hK _ _ ?_); clear hK K)
  refine Run.seq ?_
  refine Run.seq ?_
  (refine Run.region ?_; intro K hK)
  refine Ops.pure H (X.move rfl) rfl rfl rfl ?_
  refine Ops.pure H (X.cmp rfl rfl rfl) rfl rfl rfl ?_
  refine Ops.pure H (X.move rfl) rfl rfl rfl ?_
  refine Ops.split_dec rfl rfl (fun h9 => ?x0) (fun h9 => ?y0)
  case' y0 =>
    refine Ops.pure H (X.move rfl) rfl rfl rfl ?_
    refine Ops.pure H (X.cmp rfl rfl rfl) rfl rfl rfl ?_
    refine Ops.pure H (X.pick_f rfl rfl) rfl rfl rfl ?_
    (refine Ops.nil (hK _ _ ?_); clear hK K)
    refine Run.cond_dec rfl (fun h11 => ?x1) (fun h11 => ?y1)
    case' y1 => exfalso; omega
    case' x1 =>
      refine Run.seq ?_
      (refine Run.region ?_; intro K hK)
      refine Ops.pure H (X.assign rfl) rfl rfl rfl ?_
      refine Ops.pure H (X.assign rfl) rfl rfl rfl ?_
      (refine Ops.nil (hK _ _ ?_); clear hK K)
  case' x0 =>
    refine Ops.pass rfl rfl rfl ?_
    refine Ops.pass rfl rfl rfl ?_
    refine Ops.pure H (X.pick_t rfl rfl) rfl rfl rfl ?_
    (refine Ops.nil (hK _ _ ?_); clear hK K)
    refine Run.cond_true rfl ?_
    refine Run.seq ?_
    (refine Run.region ?_; intro K hK)
    refine Ops.pure H (X.assign rfl) rfl rfl rfl ?_
    refine Ops.pure H (X.assign rfl) rfl rfl rfl ?_
    (refine Ops.nil (hK _ _ ?_); clear hK K)
  all_goals (first | refine Fn.ret1 HF rfl rfl ?_ | refine Fn.ret2 HF rfl rfl rfl ?_ | refine Fn.ret3 HF rfl rfl rfl rfl ?_ | refine Fn.ret0 HF rfl ?_ | refine Fn.fin0 HF rfl ?_ | refine Fn.retG (E := env) HF rfl H (by first | exact RVs.cellN rfl rfl rfl (by first | exact .head | exact .tail .head | exact .tail (.tail .head) | exact .tail (.tail (.tail .head)) | exact .tail (.tail (.tail (.tail .head))) | exact .tail (.tail (.tail (.tail (.tail .head)))) | exact .tail (.tail (.tail (.tail (.tail (.tail .head)))))) (by first | assumption | exact Cs.take rfl) RVs.nil | exact RVs.cellN rfl rfl rfl (by first | exact .head | exact .tail .head | exact .tail (.tail .head) | exact .tail (.tail (.tail .head)) | exact .tail (.tail (.tail (.tail .head))) | exact .tail (.tail (.tail (.tail (.tail .head)))) | exact .tail (.tail (.tail (.tail (.tail (.tail .head)))))) (by first | assumption | exact Cs.take rfl) (RVs.tmp rfl RVs.nil) | exact RVs.cellN rfl rfl rfl (by first | exact .head | exact .tail .head | exact .tail (.tail .head) | exact .tail (.tail (.tail .head)) | exact .tail (.tail (.tail (.tail .head))) | exact .tail (.tail (.tail (.tail (.tail .head)))) | exact .tail (.tail (.tail (.tail (.tail (.tail .head)))))) (by first | assumption | exact Cs.take rfl) (RVs.tmp rfl (RVs.tmp rfl RVs.nil))) rfl ?_)
  all_goals exact ⟨rfl, rfl⟩
theorem new_yes (z : World) (n : Nat) (h1 : 1 ≤ n) (h2 : n ≤ 64) : Fn env.P 24 [.int .i64 (n : Nat)] z fun v w' => ∃ g, v = .tuple #[.pointer (some ⟨g.nb, 0, none⟩), .int .i64 0] ∧ PN w' g ∧ g.abs = ns0 n ∧ Fr z w' [] ∧ (∀ b, PF g b → z.heap.size ≤ b) ∧ (∀ b, ¬ PI g b) := by
  have H := Holds.start z []
  have HF := Try.func24; refine Fn.enter Try.func24 Try.ntmps24 rfl rfl rfl ?_
  refine Run.seq ?_
  (refine Run.region ?_; intro K hK)
  refine Ops.pure H (X.assign rfl) rfl rfl rfl ?_
  refine Ops.pure H (X.assign rfl) rfl rfl rfl ?_
  (refine Ops.nil (hK _ _ ?_); clear hK K)
  refine Run.seq ?_
  refine Run.seq ?_
  (refine Run.region ?_; intro K hK)
  refine Ops.pure H (X.move rfl) rfl rfl rfl ?_
  refine Ops.pure H (X.cmp rfl rfl rfl) rfl rfl rfl ?_
  refine Ops.pure H (X.move rfl) rfl rfl rfl ?_
  refine Ops.split_dec rfl rfl (fun h9 => ?x2) (fun h9 => ?y2)
  case' y2 =>
    refine Ops.pure H (X.move rfl) rfl rfl rfl ?_
    refine Ops.pure H (X.cmp rfl rfl rfl) rfl rfl rfl ?_
    refine Ops.pure H (X.pick_f rfl rfl) rfl rfl rfl ?_
    (refine Ops.nil (hK _ _ ?_); clear hK K)
    refine Run.cond_dec rfl (fun h11 => ?x3) (fun h11 => ?y3)
    case' y3 =>
      refine Run.skip ?_
    case' x3 => exfalso; omega
  case' x2 => exfalso; omega
  refine Run.seq ?_
  refine Run.meet (fun (x : Nat × Nat × Nat × Nat) => [(0, .int .i64 (n : Nat)), (4, .pointer (some ⟨x.2.2.2, 0, none⟩))])
    (fun x w' => Fr z w' [] ∧ z.heap.size ≤ x.1 ∧ z.heap.size ≤ x.2.1 ∧ z.heap.size ≤ x.2.2.1 ∧ z.heap.size ≤ x.2.2.2 ∧ w'.heap[x.1]? = some (row (List.replicate n (.bool false)) 4) ∧ w'.heap[x.2.1]? = some (.map #[] 0) ∧ w'.heap[x.2.2.1]? = some (row (List.replicate n (.slice none 0 0)) 72) ∧ w'.heap[x.2.2.2]? = some (row [.slice (some ⟨x.1, 0, none⟩) n n, .map (some x.2.1), .slice none 0 0, .slice (some ⟨x.2.2.1, 0, none⟩) n n] 84)) ?_ ?_
  · rintro ⟨ub, mb, xb, nb⟩ w2 ⟨hf, hub, hmb, hxb, hnb, k1, k2, k3, k4⟩
    dsimp only at hf hub hmb hxb hnb k1 k2 k3 k4 ⊢
    clear H
    have H := ((Holds.start w2 []).add false k4 (by simp) (by simp))
    refine Run.seq ?_
    refine Run.seq ?_
    (refine Run.region ?_; intro K hK)
    refine Ops.pure H (X.move rfl) rfl rfl rfl ?_
    refine Ops.pure H (X.nilCheck rfl) rfl rfl rfl ?_
    refine Ops.pure H (X.fieldAddr rfl rfl rfl rfl rfl rfl) rfl rfl rfl ?_
    refine Ops.pure H (X.load1 rfl rfl rfl rfl Pick.head rfl) rfl rfl rfl ?_
    refine Ops.pure H (X.len_slice rfl rfl rfl) rfl rfl rfl ?_
    refine Ops.pure H (X.move rfl) rfl rfl rfl ?_
    (refine Ops.nil (hK _ _ ?_); clear hK K)
    refine Run.block ?_
    refine Run.rounds (fun (x : Nat) => [(0, .int .i64 (n : Nat)), (4, .pointer (some ⟨nb, 0, none⟩)), (23, .int .i64 (n : Nat)), (24, .int .i64 (x : Nat))])
      (fun x w' => x ≤ n ∧ Fr w2 w' [ub] ∧ ∃ cs, w'.heap[ub]? = some (row cs 4) ∧ cs.length = n ∧ ∀ i, i < x → cs[i]? = some (.bool true)) (fun x => n - x) 0 (by repeat (first | exact trivial | refine ⟨rfl, ?_⟩)) ⟨by omega, H.fr.mono (by simp), _, H.fr.get k1 (by simp), by simp, by intro i hi; omega⟩ ?_
    clear H
    rintro x w3 ⟨hx, hf3, cs, hc, hcl, hall⟩ IH
    have k43 := hf3.get k4 (by simpa using ne_of_ty k4 k1 (by decide))
    by_cases hlt : x < n
    · have H := ((Holds.start w3 [ub]).add false k43 (by simp) (by simp)).add true hc (by simpa using ne_of_ty hc k43 (by decide)) (by simp)
      refine Run.seq ?_
      (refine Run.region ?_; intro K hK)
      refine Ops.pure H (X.cmp rfl rfl rfl) rfl rfl rfl ?_
      (refine Ops.nil (hK _ _ ?_); clear hK K)
      refine Run.seq ?_
      refine Run.cond_dec rfl (fun h25 => ?x4) (fun h25 => ?y4)
      case' y4 => exfalso; omega
      case' x4 =>
        refine Run.skip ?_
        refine Run.seq ?_
        refine Run.block ?_
        refine Run.seq ?_
        (refine Run.region ?_; intro K hK)
        refine Ops.pure H (X.move rfl) rfl rfl rfl ?_
        refine Ops.pure H (X.assign rfl) rfl rfl rfl ?_
        (refine Ops.nil (hK _ _ ?_); clear hK K)
        (refine Run.region ?_; intro K hK)
        refine Ops.pure H (X.move rfl) rfl rfl rfl ?_
        refine Ops.pure H (X.nilCheck rfl) rfl rfl rfl ?_
        refine Ops.pure H (X.fieldAddr rfl rfl rfl rfl rfl rfl) rfl rfl rfl ?_
        refine Ops.pure H (X.load1 rfl rfl rfl rfl (.tail .head) rfl) rfl rfl rfl ?_
        refine Ops.pure H (X.move rfl) rfl rfl rfl ?_
        refine Ops.pure H (X.indexAddr rfl rfl (by omega) rfl rfl rfl rfl) rfl rfl rfl ?_
        (refine Ops.eff rfl (Y.storeI rfl rfl rfl rfl rfl rfl H Upd.head (by omega) ?_); intro w H0; clear H; have H := H0; clear H0)
        (refine Ops.nil (hK _ _ ?_); clear hK K)
        refine Run.inBlock ?_
        (refine Run.region ?_; intro K hK)
        refine Ops.pure H (X.succ rfl rfl (by omega)) rfl rfl rfl ?_
        refine Ops.pure H (X.move rfl) rfl rfl rfl ?_
        (refine Ops.nil (hK _ _ ?_); clear hK K)
      refine (IH (x + 1) _ (by omega) ⟨by omega, hf3.trans H.fr (by simp) (by simp), cs.set x (.bool true), by have := H.pick (b := ub) (by first | exact .head | exact .tail .head | exact .tail (.tail .head) | exact .tail (.tail (.tail .head)) | exact .tail (.tail (.tail (.tail .head))) | exact .tail (.tail (.tail (.tail (.tail .head)))) | exact .tail (.tail (.tail (.tail (.tail (.tail .head)))))); simpa using this, by simp [hcl], fun i hi => ?_⟩).weak (by repeat (first | exact trivial | refine ⟨rfl, ?_⟩))
      by_cases e : i = x
      · subst e; rw [List.getElem?_set_self (by omega)]
      · rw [List.getElem?_set_ne (fun h => e h.symm)]; exact hall i (by omega)
    · have H := ((Holds.start w3 []).add false k43 (by simp) (by simp))
      refine Run.seq ?_
      (refine Run.region ?_; intro K hK)
      refine Ops.pure H (X.cmp rfl rfl rfl) rfl rfl rfl ?_
      (refine Ops.nil (hK _ _ ?_); clear hK K)
      refine Run.seq ?_
      refine Run.cond_dec rfl (fun h25 => ?x5) (fun h25 => ?y5)
      case' y5 =>
        refine Run.exit rfl ?_
        refine Run.seq ?_
        (refine Run.region ?_; intro K hK)
        refine Ops.pure H (X.move rfl) rfl rfl rfl ?_
        refine Ops.pure H (X.assign rfl) rfl rfl rfl ?_
        refine Ops.pure H (X.assign rfl) rfl rfl rfl ?_
        (refine Ops.nil (hK _ _ ?_); clear hK K)
      case' x5 => exfalso; omega
      (first | refine Fn.ret1 HF rfl rfl ?_ | refine Fn.ret2 HF rfl rfl rfl ?_ | refine Fn.ret3 HF rfl rfl rfl rfl ?_ | refine Fn.ret0 HF rfl ?_ | refine Fn.fin0 HF rfl ?_ | refine Fn.retG (E := env) HF rfl H (by first | exact RVs.cellN rfl rfl rfl (by first | exact .head | exact .tail .head | exact .tail (.tail .head) | exact .tail (.tail (.tail .head)) | exact .tail (.tail (.tail (.tail .head))) | exact .tail (.tail (.tail (.tail (.tail .head)))) | exact .tail (.tail (.tail (.tail (.tail (.tail .head)))))) (by first | assumption | exact Cs.take rfl) RVs.nil | exact RVs.cellN rfl rfl rfl (by first | exact .head | exact .tail .head | exact .tail (.tail .head) | exact .tail (.tail (.tail .head)) | exact .tail (.tail (.tail (.tail .head))) | exact .tail (.tail (.tail (.tail (.tail .head)))) | exact .tail (.tail (.tail (.tail (.tail (.tail .head)))))) (by first | assumption | exact Cs.take rfl) (RVs.tmp rfl RVs.nil) | exact RVs.cellN rfl rfl rfl (by first | exact .head | exact .tail .head | exact .tail (.tail .head) | exact .tail (.tail (.tail .head)) | exact .tail (.tail (.tail (.tail .head))) | exact .tail (.tail (.tail (.tail (.tail .head)))) | exact .tail (.tail (.tail (.tail (.tail (.tail .head)))))) (by first | assumption | exact Cs.take rfl) (RVs.tmp rfl (RVs.tmp rfl RVs.nil))) rfl ?_)
      obtain rfl : x = n := by omega
      have hF := hf3.trans (U := [ub]) H.fr (by simp) (by simp)
      have gg := H.fr.get hc (by simp)
      refine ⟨⟨x, nb, ub, mb, xb, none, fun i => decide (i < x), fun _ => none, [], fun _ => none, fun _ => []⟩, rfl, ⟨⟨x, x, _, H.pick .head, Nat.le_refl _, Nat.le_refl _, by omega, by omega, Lst.nil⟩, by simp, ⟨cs, gg, by dsimp only; omega, fun i hi => by rw [hall i hi]; have hi : i < x := hi; simp [hi]⟩,
        ⟨_, hF.get k3 (by simpa using ne_of_ty k3 k1 (by decide)), by simp, fun i hi => ⟨.slice none 0 0, by have hi : i < x := hi; simp [hi], Lst.nil⟩⟩, by simp, ⟨_, _, _, hF.get k2 (by simp; exact fun e => by rw [e, k1] at k2; simp at k2), Mk.empty, MapKept.stamped_empty _, fun _ => rfl⟩, by simp, by simp, by simp, ⟨h1, h2⟩, by simp, by simp, by simp, by rintro b ⟨i, p, hi, hp, _⟩; cases hp⟩, rfl, hf.trans hF (by simp) (by simp; omega), ?_, ?_⟩
      · rintro b ((rfl | rfl | rfl | rfl | e | ⟨i, hi, e⟩ | ⟨a, c, e, _⟩) | ⟨i, p, hi, hp, _⟩)
        · exact hnb
        · exact hub
        · exact hmb
        · exact hxb
        · cases e
        · cases e
        · cases e
        · cases hp
      · rintro b (⟨p, hp, _⟩ | ⟨a, c, p, e, _⟩)
        · cases hp
        · cases e
  · intro kk go
    refine Run.draw H [] [0, 3, 1, 2, 4, 5, 6, 7] ?_
    clear H
    intro K hK w H
    refine Draw.take0 rfl (X.move rfl) rfl rfl rfl (by decide +kernel) ?_
    refine Draw.take0 rfl (X.move rfl) rfl rfl rfl (by decide +kernel) ?_
    refine Draw.eff3 (i := 1) (j := 2) (l := 4) [2, 4, 5, 6, 7] [1, 4, 5, 6, 7] [1, 2, 5, 6, 7] rfl rfl rfl rfl rfl rfl (by decide +kernel) (Y.make (len := n) (cap := n) rfl rfl (by omega) rfl rfl rfl rfl (by dsimp only; omega) (by omega) rfl H ?_) (Y.makeMap rfl H ?_) (Y.make (len := n) (cap := n) rfl rfl (by omega) rfl rfl rfl rfl (by dsimp only; omega) (by omega) rfl H ?_)
    · skip
      intro ub ucs w H' hub hul hur
      clear H
      have H := H'
      clear H'
      rw [hur rfl] at H
      clear hur hul
      refine ⟨fun e he => by simp at he, ?_⟩
      refine Draw.eff2 (i := 2) (j := 4) [4, 5, 6, 7] [2, 5, 6, 7] rfl rfl rfl rfl (by decide +kernel) (Y.makeMap rfl H ?_) (Y.make (len := n) (cap := n) rfl rfl (by omega) rfl rfl rfl rfl (by dsimp only; omega) (by omega) rfl H ?_)
      · skip
        intro mb w H' hmb
        clear H
        have H := H'
        clear H'
        refine ⟨fun e he => by simp at he, ?_⟩
        refine Draw.eff (i := 4) rfl rfl (by decide +kernel) (Y.make (len := n) (cap := n) rfl rfl (by omega) rfl rfl rfl rfl (by dsimp only; omega) (by omega) rfl H ?_)
        intro xb xcs w H' hxb hxl hxr
        clear H
        have H := H'
        clear H'
        rw [hxr rfl] at H
        clear hxr hxl
        refine ⟨fun e he => by simp at he, ?_⟩
        refine Draw.take0 rfl (X.buildO rfl rfl rfl rfl rfl rfl) rfl rfl rfl (by decide +kernel) ?_
        refine Draw.eff (i := 6) rfl rfl (by decide +kernel) (Y.box rfl rfl rfl H ?_)
        intro b18 w H' hb18
        clear H
        have H := H'
        clear H'
        refine ⟨fun e he => by simp at he, ?_⟩
        refine Draw.take0 rfl (X.assign rfl) rfl rfl rfl (by decide +kernel) ?_
        (refine Draw.done (by decide +kernel) (hK _ _ ?_); clear hK K)
        refine go (ub, mb, xb, b18) _ _ ⟨H.fr, hub, hmb, hxb, hb18, H.pick (b := ub) (by first | exact .head | exact .tail .head | exact .tail (.tail .head) | exact .tail (.tail (.tail .head)) | exact .tail (.tail (.tail (.tail .head))) | exact .tail (.tail (.tail (.tail (.tail .head)))) | exact .tail (.tail (.tail (.tail (.tail (.tail .head)))))), H.pick (b := mb) (by first | exact .head | exact .tail .head | exact .tail (.tail .head) | exact .tail (.tail (.tail .head)) | exact .tail (.tail (.tail (.tail .head))) | exact .tail (.tail (.tail (.tail (.tail .head)))) | exact .tail (.tail (.tail (.tail (.tail (.tail .head)))))), H.pick (b := xb) (by first | exact .head | exact .tail .head | exact .tail (.tail .head) | exact .tail (.tail (.tail .head)) | exact .tail (.tail (.tail (.tail .head))) | exact .tail (.tail (.tail (.tail (.tail .head)))) | exact .tail (.tail (.tail (.tail (.tail (.tail .head)))))), H.pick (b := b18) (by first | exact .head | exact .tail .head | exact .tail (.tail .head) | exact .tail (.tail (.tail .head)) | exact .tail (.tail (.tail (.tail .head))) | exact .tail (.tail (.tail (.tail (.tail .head)))) | exact .tail (.tail (.tail (.tail (.tail (.tail .head))))))⟩ (by repeat (first | exact trivial | refine ⟨rfl, ?_⟩))
      · skip
        intro xb xcs w H' hxb hxl hxr
        clear H
        have H := H'
        clear H'
        rw [hxr rfl] at H
        clear hxr hxl
        refine ⟨fun e he => by simp at he, ?_⟩
        refine Draw.eff (i := 2) rfl rfl (by decide +kernel) (Y.makeMap rfl H ?_)
        intro mb w H' hmb
        clear H
        have H := H'
        clear H'
        refine ⟨fun e he => by simp at he, ?_⟩
        refine Draw.take0 rfl (X.buildO rfl rfl rfl rfl rfl rfl) rfl rfl rfl (by decide +kernel) ?_
        refine Draw.eff (i := 6) rfl rfl (by decide +kernel) (Y.box rfl rfl rfl H ?_)
        intro b18 w H' hb18
        clear H
        have H := H'
        clear H'
        refine ⟨fun e he => by simp at he, ?_⟩
        refine Draw.take0 rfl (X.assign rfl) rfl rfl rfl (by decide +kernel) ?_
        (refine Draw.done (by decide +kernel) (hK _ _ ?_); clear hK K)
        refine go (ub, mb, xb, b18) _ _ ⟨H.fr, hub, hmb, hxb, hb18, H.pick (b := ub) (by first | exact .head | exact .tail .head | exact .tail (.tail .head) | exact .tail (.tail (.tail .head)) | exact .tail (.tail (.tail (.tail .head))) | exact .tail (.tail (.tail (.tail (.tail .head)))) | exact .tail (.tail (.tail (.tail (.tail (.tail .head)))))), H.pick (b := mb) (by first | exact .head | exact .tail .head | exact .tail (.tail .head) | exact .tail (.tail (.tail .head)) | exact .tail (.tail (.tail (.tail .head))) | exact .tail (.tail (.tail (.tail (.tail .head)))) | exact .tail (.tail (.tail (.tail (.tail (.tail .head)))))), H.pick (b := xb) (by first | exact .head | exact .tail .head | exact .tail (.tail .head) | exact .tail (.tail (.tail .head)) | exact .tail (.tail (.tail (.tail .head))) | exact .tail (.tail (.tail (.tail (.tail .head)))) | exact .tail (.tail (.tail (.tail (.tail (.tail .head)))))), H.pick (b := b18) (by first | exact .head | exact .tail .head | exact .tail (.tail .head) | exact .tail (.tail (.tail .head)) | exact .tail (.tail (.tail (.tail .head))) | exact .tail (.tail (.tail (.tail (.tail .head)))) | exact .tail (.tail (.tail (.tail (.tail (.tail .head))))))⟩ (by repeat (first | exact trivial | refine ⟨rfl, ?_⟩))
    · skip
      intro mb w H' hmb
      clear H
      have H := H'
      clear H'
      refine ⟨fun e he => by simp at he, ?_⟩
      refine Draw.eff2 (i := 1) (j := 4) [4, 5, 6, 7] [1, 5, 6, 7] rfl rfl rfl rfl (by decide +kernel) (Y.make (len := n) (cap := n) rfl rfl (by omega) rfl rfl rfl rfl (by dsimp only; omega) (by omega) rfl H ?_) (Y.make (len := n) (cap := n) rfl rfl (by omega) rfl rfl rfl rfl (by dsimp only; omega) (by omega) rfl H ?_)
      · skip
        intro ub ucs w H' hub hul hur
        clear H
        have H := H'
        clear H'
        rw [hur rfl] at H
        clear hur hul
        refine ⟨fun e he => by simp at he, ?_⟩
        refine Draw.eff (i := 4) rfl rfl (by decide +kernel) (Y.make (len := n) (cap := n) rfl rfl (by omega) rfl rfl rfl rfl (by dsimp only; omega) (by omega) rfl H ?_)
        intro xb xcs w H' hxb hxl hxr
        clear H
        have H := H'
        clear H'
        rw [hxr rfl] at H
        clear hxr hxl
        refine ⟨fun e he => by simp at he, ?_⟩
        refine Draw.take0 rfl (X.buildO rfl rfl rfl rfl rfl rfl) rfl rfl rfl (by decide +kernel) ?_
        refine Draw.eff (i := 6) rfl rfl (by decide +kernel) (Y.box rfl rfl rfl H ?_)
        intro b18 w H' hb18
        clear H
        have H := H'
        clear H'
        refine ⟨fun e he => by simp at he, ?_⟩
        refine Draw.take0 rfl (X.assign rfl) rfl rfl rfl (by decide +kernel) ?_
        (refine Draw.done (by decide +kernel) (hK _ _ ?_); clear hK K)
        refine go (ub, mb, xb, b18) _ _ ⟨H.fr, hub, hmb, hxb, hb18, H.pick (b := ub) (by first | exact .head | exact .tail .head | exact .tail (.tail .head) | exact .tail (.tail (.tail .head)) | exact .tail (.tail (.tail (.tail .head))) | exact .tail (.tail (.tail (.tail (.tail .head)))) | exact .tail (.tail (.tail (.tail (.tail (.tail .head)))))), H.pick (b := mb) (by first | exact .head | exact .tail .head | exact .tail (.tail .head) | exact .tail (.tail (.tail .head)) | exact .tail (.tail (.tail (.tail .head))) | exact .tail (.tail (.tail (.tail (.tail .head)))) | exact .tail (.tail (.tail (.tail (.tail (.tail .head)))))), H.pick (b := xb) (by first | exact .head | exact .tail .head | exact .tail (.tail .head) | exact .tail (.tail (.tail .head)) | exact .tail (.tail (.tail (.tail .head))) | exact .tail (.tail (.tail (.tail (.tail .head)))) | exact .tail (.tail (.tail (.tail (.tail (.tail .head)))))), H.pick (b := b18) (by first | exact .head | exact .tail .head | exact .tail (.tail .head) | exact .tail (.tail (.tail .head)) | exact .tail (.tail (.tail (.tail .head))) | exact .tail (.tail (.tail (.tail (.tail .head)))) | exact .tail (.tail (.tail (.tail (.tail (.tail .head))))))⟩ (by repeat (first | exact trivial | refine ⟨rfl, ?_⟩))
      · skip
        intro xb xcs w H' hxb hxl hxr
        clear H
        have H := H'
        clear H'
        rw [hxr rfl] at H
        clear hxr hxl
        refine ⟨fun e he => by simp at he, ?_⟩
        refine Draw.eff (i := 1) rfl rfl (by decide +kernel) (Y.make (len := n) (cap := n) rfl rfl (by omega) rfl rfl rfl rfl (by dsimp only; omega) (by omega) rfl H ?_)
        intro ub ucs w H' hub hul hur
        clear H
        have H := H'
        clear H'
        rw [hur rfl] at H
        clear hur hul
        refine ⟨fun e he => by simp at he, ?_⟩
        refine Draw.take0 rfl (X.buildO rfl rfl rfl rfl rfl rfl) rfl rfl rfl (by decide +kernel) ?_
        refine Draw.eff (i := 6) rfl rfl (by decide +kernel) (Y.box rfl rfl rfl H ?_)
        intro b18 w H' hb18
        clear H
        have H := H'
        clear H'
        refine ⟨fun e he => by simp at he, ?_⟩
        refine Draw.take0 rfl (X.assign rfl) rfl rfl rfl (by decide +kernel) ?_
        (refine Draw.done (by decide +kernel) (hK _ _ ?_); clear hK K)
        refine go (ub, mb, xb, b18) _ _ ⟨H.fr, hub, hmb, hxb, hb18, H.pick (b := ub) (by first | exact .head | exact .tail .head | exact .tail (.tail .head) | exact .tail (.tail (.tail .head)) | exact .tail (.tail (.tail (.tail .head))) | exact .tail (.tail (.tail (.tail (.tail .head)))) | exact .tail (.tail (.tail (.tail (.tail (.tail .head)))))), H.pick (b := mb) (by first | exact .head | exact .tail .head | exact .tail (.tail .head) | exact .tail (.tail (.tail .head)) | exact .tail (.tail (.tail (.tail .head))) | exact .tail (.tail (.tail (.tail (.tail .head)))) | exact .tail (.tail (.tail (.tail (.tail (.tail .head)))))), H.pick (b := xb) (by first | exact .head | exact .tail .head | exact .tail (.tail .head) | exact .tail (.tail (.tail .head)) | exact .tail (.tail (.tail (.tail .head))) | exact .tail (.tail (.tail (.tail (.tail .head)))) | exact .tail (.tail (.tail (.tail (.tail (.tail .head)))))), H.pick (b := b18) (by first | exact .head | exact .tail .head | exact .tail (.tail .head) | exact .tail (.tail (.tail .head)) | exact .tail (.tail (.tail (.tail .head))) | exact .tail (.tail (.tail (.tail (.tail .head)))) | exact .tail (.tail (.tail (.tail (.tail (.tail .head))))))⟩ (by repeat (first | exact trivial | refine ⟨rfl, ?_⟩))
    · skip
      intro xb xcs w H' hxb hxl hxr
      clear H
      have H := H'
      clear H'
      rw [hxr rfl] at H
      clear hxr hxl
      refine ⟨fun e he => by simp at he, ?_⟩
      refine Draw.eff2 (i := 1) (j := 2) [2, 5, 6, 7] [1, 5, 6, 7] rfl rfl rfl rfl (by decide +kernel) (Y.make (len := n) (cap := n) rfl rfl (by omega) rfl rfl rfl rfl (by dsimp only; omega) (by omega) rfl H ?_) (Y.makeMap rfl H ?_)
      · skip
        intro ub ucs w H' hub hul hur
        clear H
        have H := H'
        clear H'
        rw [hur rfl] at H
        clear hur hul
        refine ⟨fun e he => by simp at he, ?_⟩
        refine Draw.eff (i := 2) rfl rfl (by decide +kernel) (Y.makeMap rfl H ?_)
        intro mb w H' hmb
        clear H
        have H := H'
        clear H'
        refine ⟨fun e he => by simp at he, ?_⟩
        refine Draw.take0 rfl (X.buildO rfl rfl rfl rfl rfl rfl) rfl rfl rfl (by decide +kernel) ?_
        refine Draw.eff (i := 6) rfl rfl (by decide +kernel) (Y.box rfl rfl rfl H ?_)
        intro b18 w H' hb18
        clear H
        have H := H'
        clear H'
        refine ⟨fun e he => by simp at he, ?_⟩
        refine Draw.take0 rfl (X.assign rfl) rfl rfl rfl (by decide +kernel) ?_
        (refine Draw.done (by decide +kernel) (hK _ _ ?_); clear hK K)
        refine go (ub, mb, xb, b18) _ _ ⟨H.fr, hub, hmb, hxb, hb18, H.pick (b := ub) (by first | exact .head | exact .tail .head | exact .tail (.tail .head) | exact .tail (.tail (.tail .head)) | exact .tail (.tail (.tail (.tail .head))) | exact .tail (.tail (.tail (.tail (.tail .head)))) | exact .tail (.tail (.tail (.tail (.tail (.tail .head)))))), H.pick (b := mb) (by first | exact .head | exact .tail .head | exact .tail (.tail .head) | exact .tail (.tail (.tail .head)) | exact .tail (.tail (.tail (.tail .head))) | exact .tail (.tail (.tail (.tail (.tail .head)))) | exact .tail (.tail (.tail (.tail (.tail (.tail .head)))))), H.pick (b := xb) (by first | exact .head | exact .tail .head | exact .tail (.tail .head) | exact .tail (.tail (.tail .head)) | exact .tail (.tail (.tail (.tail .head))) | exact .tail (.tail (.tail (.tail (.tail .head)))) | exact .tail (.tail (.tail (.tail (.tail (.tail .head)))))), H.pick (b := b18) (by first | exact .head | exact .tail .head | exact .tail (.tail .head) | exact .tail (.tail (.tail .head)) | exact .tail (.tail (.tail (.tail .head))) | exact .tail (.tail (.tail (.tail (.tail .head)))) | exact .tail (.tail (.tail (.tail (.tail (.tail .head))))))⟩ (by repeat (first | exact trivial | refine ⟨rfl, ?_⟩))
      · skip
        intro mb w H' hmb
        clear H
        have H := H'
        clear H'
        refine ⟨fun e he => by simp at he, ?_⟩
        refine Draw.eff (i := 1) rfl rfl (by decide +kernel) (Y.make (len := n) (cap := n) rfl rfl (by omega) rfl rfl rfl rfl (by dsimp only; omega) (by omega) rfl H ?_)
        intro ub ucs w H' hub hul hur
        clear H
        have H := H'
        clear H'
        rw [hur rfl] at H
        clear hur hul
        refine ⟨fun e he => by simp at he, ?_⟩
        refine Draw.take0 rfl (X.buildO rfl rfl rfl rfl rfl rfl) rfl rfl rfl (by decide +kernel) ?_
        refine Draw.eff (i := 6) rfl rfl (by decide +kernel) (Y.box rfl rfl rfl H ?_)
        intro b18 w H' hb18
        clear H
        have H := H'
        clear H'
        refine ⟨fun e he => by simp at he, ?_⟩
        refine Draw.take0 rfl (X.assign rfl) rfl rfl rfl (by decide +kernel) ?_
        (refine Draw.done (by decide +kernel) (hK _ _ ?_); clear hK K)
        refine go (ub, mb, xb, b18) _ _ ⟨H.fr, hub, hmb, hxb, hb18, H.pick (b := ub) (by first | exact .head | exact .tail .head | exact .tail (.tail .head) | exact .tail (.tail (.tail .head)) | exact .tail (.tail (.tail (.tail .head))) | exact .tail (.tail (.tail (.tail (.tail .head)))) | exact .tail (.tail (.tail (.tail (.tail (.tail .head)))))), H.pick (b := mb) (by first | exact .head | exact .tail .head | exact .tail (.tail .head) | exact .tail (.tail (.tail .head)) | exact .tail (.tail (.tail (.tail .head))) | exact .tail (.tail (.tail (.tail (.tail .head)))) | exact .tail (.tail (.tail (.tail (.tail (.tail .head)))))), H.pick (b := xb) (by first | exact .head | exact .tail .head | exact .tail (.tail .head) | exact .tail (.tail (.tail .head)) | exact .tail (.tail (.tail (.tail .head))) | exact .tail (.tail (.tail (.tail (.tail .head)))) | exact .tail (.tail (.tail (.tail (.tail (.tail .head)))))), H.pick (b := b18) (by first | exact .head | exact .tail .head | exact .tail (.tail .head) | exact .tail (.tail (.tail .head)) | exact .tail (.tail (.tail (.tail .head))) | exact .tail (.tail (.tail (.tail (.tail .head)))) | exact .tail (.tail (.tail (.tail (.tail (.tail .head))))))⟩ (by repeat (first | exact trivial | refine ⟨rfl, ?_⟩))
end Go.Proofs.Ytpmihcefjdeonaa
