/- Walks of layer 6: Send. -/
import Derived.Test.YtpmihcefjdeonaaND
namespace Go.Proofs.Ytpmihcefjdeonaa
open Go
set_option maxRecDepth 20000
set_option maxHeartbeats 2000000
attribute [local irreducible] Run Ops Fn Draw Draw2 PureOp StepZ

def Ns.sendE (s : Ns) (f t : Int) (b : List Int) : Int :=
  if s.there f ∧ s.isN t then (if 65536 < b.length ∨ 4096 ≤ (s.way (f.toNat, t.toNat)).sent.length - (s.way (f.toNat, t.toNat)).told then 2 else 0) else 60
def Ns.send1 (s : Ns) (a : Nat × Nat) (b : List Int) : Ns :=
  (s.setW a { s.way a with sent := (s.way a).sent ++ [b] }).flies ⟨a.1, a.2, false, (s.way a).sent.length + 1, (s.way a).ep, b⟩
def Ns.send (s : Ns) (f t : Int) (b : List Int) : Ns := if s.sendE f t b = 0 then s.send1 (f.toNat, t.toNat) b else s
theorem send_any (z : World) (g : PG) (f t : Int) (bv : Value) (bs : List Int) (k : Nat) (h : PN z g) (hok : g.abs.Ok k) (hk : k ≤ 4398046511000) (hbv : ∀ w' S, Fr z w' S → (∀ b ∈ S, PF g b) → Bys w' bv bs) : Fn env.P 15 [.pointer (some ⟨g.nb, 0, none⟩), .int .i64 f, .int .i64 t, bv] z (POp z g (g.abs.sendE f t bs) (g.abs.send f t bs)) := by
  have H := Holds.start z []
  have HF := Try.func15; refine Fn.enter Try.func15 Try.ntmps15 rfl rfl rfl ?_
  refine Run.seq ?_
  (refine Run.region ?_; intro K hK)
  refine Ops.pure H (X.assign rfl) rfl rfl rfl ?_
  (refine Ops.nil (hK _ _ ?_); clear hK K)
  refine Run.seq ?_
  refine Run.seq ?_
  (refine Run.region ?_; intro K hK)
  refine Ops.pure H (X.move rfl) rfl rfl rfl ?_
  refine Ops.pure H (X.move rfl) rfl rfl rfl ?_
  refine Ops.eff rfl (Y.call rfl rfl (by first | assumption | decide +kernel) rfl (there_any _ g f h) rfl ?_)
  rintro v w1 ⟨rfl, rfl⟩
  cases hf : g.abs.there f with
  | false =>
    refine Ops.pure H (X.not rfl) rfl rfl rfl ?_
    refine Ops.pure H (X.move rfl) rfl rfl rfl ?_
    refine Ops.pass rfl rfl rfl ?_
    refine Ops.pass rfl rfl rfl ?_
    refine Ops.pass rfl rfl rfl ?_
    refine Ops.pass rfl rfl rfl ?_
    refine Ops.pure H (X.pick_t rfl rfl) rfl rfl rfl ?_
    (refine Ops.nil (hK _ _ ?_); clear hK K)
    refine Run.cond_true rfl ?_
    refine Run.seq ?_
    (refine Run.region ?_; intro K hK)
    refine Ops.pure H (X.assign rfl) rfl rfl rfl ?_
    (refine Ops.nil (hK _ _ ?_); clear hK K)
    (first | refine Fn.ret1 HF rfl rfl ?_ | refine Fn.ret2 HF rfl rfl rfl ?_ | refine Fn.ret3 HF rfl rfl rfl rfl ?_ | refine Fn.ret0 HF rfl ?_ | refine Fn.fin0 HF rfl ?_ | refine Fn.retG (E := env) HF rfl H (by first | exact RVs.cellN rfl rfl rfl (by first | exact .head | exact .tail .head | exact .tail (.tail .head) | exact .tail (.tail (.tail .head)) | exact .tail (.tail (.tail (.tail .head))) | exact .tail (.tail (.tail (.tail (.tail .head)))) | exact .tail (.tail (.tail (.tail (.tail (.tail .head)))))) (by first | assumption | exact Cs.take rfl) RVs.nil | exact RVs.cellN rfl rfl rfl (by first | exact .head | exact .tail .head | exact .tail (.tail .head) | exact .tail (.tail (.tail .head)) | exact .tail (.tail (.tail (.tail .head))) | exact .tail (.tail (.tail (.tail (.tail .head)))) | exact .tail (.tail (.tail (.tail (.tail (.tail .head)))))) (by first | assumption | exact Cs.take rfl) (RVs.tmp rfl RVs.nil) | exact RVs.cellN rfl rfl rfl (by first | exact .head | exact .tail .head | exact .tail (.tail .head) | exact .tail (.tail (.tail .head)) | exact .tail (.tail (.tail (.tail .head))) | exact .tail (.tail (.tail (.tail (.tail .head)))) | exact .tail (.tail (.tail (.tail (.tail (.tail .head)))))) (by first | assumption | exact Cs.take rfl) (RVs.tmp rfl (RVs.tmp rfl RVs.nil))) rfl ?_)
    exact ⟨by simp [Ns.sendE, hf], g, .rfl' h H.fr, by simp [Ns.send, Ns.sendE, hf]⟩
  | true =>
  refine Ops.pure H (X.not rfl) rfl rfl rfl ?_
  refine Ops.pure H (X.move rfl) rfl rfl rfl ?_
  refine Ops.pure H (X.move rfl) rfl rfl rfl ?_
  refine Ops.pure H (X.move rfl) rfl rfl rfl ?_
  refine Ops.eff rfl (Y.call rfl rfl (by first | assumption | decide +kernel) rfl (is_any _ g t h) rfl ?_)
  rintro v w1 ⟨rfl, rfl⟩
  cases ht : g.abs.isN t with
  | false =>
    refine Ops.pure H (X.not rfl) rfl rfl rfl ?_
    refine Ops.pure H (X.pick_f rfl rfl) rfl rfl rfl ?_
    (refine Ops.nil (hK _ _ ?_); clear hK K)
    refine Run.cond_true rfl ?_
    refine Run.seq ?_
    (refine Run.region ?_; intro K hK)
    refine Ops.pure H (X.assign rfl) rfl rfl rfl ?_
    (refine Ops.nil (hK _ _ ?_); clear hK K)
    (first | refine Fn.ret1 HF rfl rfl ?_ | refine Fn.ret2 HF rfl rfl rfl ?_ | refine Fn.ret3 HF rfl rfl rfl rfl ?_ | refine Fn.ret0 HF rfl ?_ | refine Fn.fin0 HF rfl ?_ | refine Fn.retG (E := env) HF rfl H (by first | exact RVs.cellN rfl rfl rfl (by first | exact .head | exact .tail .head | exact .tail (.tail .head) | exact .tail (.tail (.tail .head)) | exact .tail (.tail (.tail (.tail .head))) | exact .tail (.tail (.tail (.tail (.tail .head)))) | exact .tail (.tail (.tail (.tail (.tail (.tail .head)))))) (by first | assumption | exact Cs.take rfl) RVs.nil | exact RVs.cellN rfl rfl rfl (by first | exact .head | exact .tail .head | exact .tail (.tail .head) | exact .tail (.tail (.tail .head)) | exact .tail (.tail (.tail (.tail .head))) | exact .tail (.tail (.tail (.tail (.tail .head)))) | exact .tail (.tail (.tail (.tail (.tail (.tail .head)))))) (by first | assumption | exact Cs.take rfl) (RVs.tmp rfl RVs.nil) | exact RVs.cellN rfl rfl rfl (by first | exact .head | exact .tail .head | exact .tail (.tail .head) | exact .tail (.tail (.tail .head)) | exact .tail (.tail (.tail (.tail .head))) | exact .tail (.tail (.tail (.tail (.tail .head)))) | exact .tail (.tail (.tail (.tail (.tail (.tail .head)))))) (by first | assumption | exact Cs.take rfl) (RVs.tmp rfl (RVs.tmp rfl RVs.nil))) rfl ?_)
    exact ⟨by simp [Ns.sendE, ht], g, .rfl' h H.fr, by simp [Ns.send, Ns.sendE, ht]⟩
  | true =>
  obtain ⟨f, rfl, hf1, _⟩ := there_iff.1 hf
  obtain ⟨t, rfl, ht1⟩ := isN_iff.1 ht
  refine Ops.pure H (X.not rfl) rfl rfl rfl ?_
  refine Ops.pure H (X.pick_f rfl rfl) rfl rfl rfl ?_
  (refine Ops.nil (hK _ _ ?_); clear hK K)
  refine Run.cond_false rfl ?_
  refine Run.skip ?_
  refine Run.seq ?_
  (refine Run.region ?_; intro K hK)
  refine Ops.pure H (X.move rfl) rfl rfl rfl ?_
  refine Ops.pure H (X.move rfl) rfl rfl rfl ?_
  refine Ops.pure H (X.move rfl) rfl rfl rfl ?_
  refine Ops.eff rfl (Y.call rfl rfl (by first | assumption | decide +kernel) rfl (way_any _ g f t h hf1 ht1) rfl ?_)
  rintro v1 w2 ⟨c, g1, rfl, st, hab, hc, hfl, _, hbx, hfw, _⟩
  have hbv2 := hbv w2 [g.mb] hfw (fun b hb => by simp at hb; exact .inl (.inr (.inr (.inl hb))))
  obtain ⟨sv, c1, c2⟩ := st.ok.wayr _ _ hc
  obtain ⟨sa, sc, rfl, _⟩ := c2.slice
  have hW := st.way1 hab hc
  have hb := hok.way (f, t)
  rw [hW] at hb
  simp only [List.length_map] at hb
  have hsub : ((c.ss.length : Nat) : Int) - (c.told : Nat) = ((c.ss.length - c.told : Nat) : Int) := by omega
  obtain ⟨ba, bc, rfl⟩ : ∃ a cp, bv = .slice a bs.length cp := by obtain ⟨a, cp, _, _, _, _, _, h1, _⟩ := hbv2; exact ⟨a, cp, h1⟩
  have hEE : g.abs.sendE (f : Nat) (t : Nat) bs = if 65536 < bs.length ∨ 4096 ≤ c.ss.length - c.told then 2 else 0 := by
    unfold Ns.sendE
    rw [if_pos ⟨hf, ht⟩, Int.toNat_natCast, Int.toNat_natCast, hW]
    simp
  have h5 : ∀ b ∈ [c.wb], ∀ cs, w2.heap[b]? ≠ some (row cs 5) := by intro b hb; simp at hb; subst hb; exact not5 c1 (by decide)
  have hsbn : ∀ b, c.sb = some b → b ≠ c.wb ∧ b < w2.heap.size := fun b hb => by rw [hb] at c2; obtain ⟨cs, hcs⟩ := c2.ty; exact ⟨ne_of_ty hcs c1 (by decide), lt_of_at hcs⟩
  clear H
  have H := ((Holds.start w2 [c.wb]).add true c1 (by simp) (by simp))
  by_cases hl : 65536 < bs.length
  · have hE : g.abs.sendE (f : Nat) (t : Nat) bs = 2 := by rw [hEE, if_pos (.inl hl)]
    refine Ops.pure H (X.assign rfl) rfl rfl rfl ?_
    (refine Ops.nil (hK _ _ ?_); clear hK K)
    refine Run.seq ?_
    refine Run.seq ?_
    (refine Run.draw H [] [0, 1, 2, 3, 4, 5, 6, 7, 8, 9, 10, 11, 12, 13, 14, 15] ?_; clear H; intro K hK w H)
    refine Draw.take0 rfl (X.move rfl) rfl rfl rfl (by decide +kernel) ?_
    refine Draw.take0 rfl (X.len_slice rfl rfl rfl) rfl rfl rfl (by decide +kernel) ?_
    refine Draw.take0 rfl (X.cmp rfl rfl rfl) rfl rfl rfl (by decide +kernel) ?_
    refine Draw.take0 rfl (X.move rfl) rfl rfl rfl (by decide +kernel) ?_
    refine Draw.split_dec rfl rfl rfl (fun h28 => ?x0) (fun h28 => ?y0)
    case' y0 => exfalso; omega
    case' x0 =>
      refine Draw.pass rfl rfl rfl rfl (by decide +kernel) ?_
      refine Draw.pass rfl rfl rfl rfl (by decide +kernel) ?_
      refine Draw.pass rfl rfl rfl rfl (by decide +kernel) ?_
      refine Draw.pass rfl rfl rfl rfl (by decide +kernel) ?_
      refine Draw.pass rfl rfl rfl rfl (by decide +kernel) ?_
      refine Draw.pass rfl rfl rfl rfl (by decide +kernel) ?_
      refine Draw.pass rfl rfl rfl rfl (by decide +kernel) ?_
      refine Draw.pass rfl rfl rfl rfl (by decide +kernel) ?_
      refine Draw.pass rfl rfl rfl rfl (by decide +kernel) ?_
      refine Draw.pass rfl rfl rfl rfl (by decide +kernel) ?_
      refine Draw.pass rfl rfl rfl rfl (by decide +kernel) ?_
      refine Draw.take0 rfl (X.pick_t rfl rfl) rfl rfl rfl (by decide +kernel) ?_
      (refine Draw.done (by decide +kernel) (hK _ _ ?_); clear hK K)
      refine Run.cond_true rfl ?_
      refine Run.seq ?_
      (refine Run.region ?_; intro K hK)
      refine Ops.pure H (X.assign rfl) rfl rfl rfl ?_
      (refine Ops.nil (hK _ _ ?_); clear hK K)
    (first | refine Fn.ret1 HF rfl rfl ?_ | refine Fn.ret2 HF rfl rfl rfl ?_ | refine Fn.ret3 HF rfl rfl rfl rfl ?_ | refine Fn.ret0 HF rfl ?_ | refine Fn.fin0 HF rfl ?_ | refine Fn.retG (E := env) HF rfl H (by first | exact RVs.cellN rfl rfl rfl (by first | exact .head | exact .tail .head | exact .tail (.tail .head) | exact .tail (.tail (.tail .head)) | exact .tail (.tail (.tail (.tail .head))) | exact .tail (.tail (.tail (.tail (.tail .head)))) | exact .tail (.tail (.tail (.tail (.tail (.tail .head)))))) (by first | assumption | exact Cs.take rfl) RVs.nil | exact RVs.cellN rfl rfl rfl (by first | exact .head | exact .tail .head | exact .tail (.tail .head) | exact .tail (.tail (.tail .head)) | exact .tail (.tail (.tail (.tail .head))) | exact .tail (.tail (.tail (.tail (.tail .head)))) | exact .tail (.tail (.tail (.tail (.tail (.tail .head)))))) (by first | assumption | exact Cs.take rfl) (RVs.tmp rfl RVs.nil) | exact RVs.cellN rfl rfl rfl (by first | exact .head | exact .tail .head | exact .tail (.tail .head) | exact .tail (.tail (.tail .head)) | exact .tail (.tail (.tail (.tail .head))) | exact .tail (.tail (.tail (.tail (.tail .head)))) | exact .tail (.tail (.tail (.tail (.tail (.tail .head)))))) (by first | assumption | exact Cs.take rfl) (RVs.tmp rfl (RVs.tmp rfl RVs.nil))) rfl ?_)
    exact ⟨by rw [hE], g1, st.ext (H.fr.drop1 (by rw [c1]; exact H.pick .head)), by rw [hab, Ns.send, if_neg (by rw [hE]; decide)]⟩
  by_cases hs : 4096 ≤ c.ss.length - c.told
  · have hE : g.abs.sendE (f : Nat) (t : Nat) bs = 2 := by rw [hEE, if_pos (.inr hs)]
    refine Ops.pure H (X.assign rfl) rfl rfl rfl ?_
    (refine Ops.nil (hK _ _ ?_); clear hK K)
    refine Run.seq ?_
    refine Run.seq ?_
    (refine Run.draw H [] [0, 1, 2, 3, 4, 5, 6, 7, 8, 9, 10, 11, 12, 13, 14, 15] ?_; clear H; intro K hK w H)
    refine Draw.take0 rfl (X.move rfl) rfl rfl rfl (by decide +kernel) ?_
    refine Draw.take0 rfl (X.len_slice rfl rfl rfl) rfl rfl rfl (by decide +kernel) ?_
    refine Draw.take0 rfl (X.cmp rfl rfl rfl) rfl rfl rfl (by decide +kernel) ?_
    refine Draw.take0 rfl (X.move rfl) rfl rfl rfl (by decide +kernel) ?_
    refine Draw.split_dec rfl rfl rfl (fun h28 => ?x1) (fun h28 => ?y1)
    case' y1 =>
      refine Draw.take0 rfl (X.move rfl) rfl rfl rfl (by decide +kernel) ?_
      refine Draw.take0 rfl (X.nilCheck rfl) rfl rfl rfl (by decide +kernel) ?_
      refine Draw.take0 rfl (X.fieldAddr rfl rfl rfl rfl rfl rfl) rfl rfl rfl (by decide +kernel) ?_
      refine Draw.take rfl (X.load1 rfl rfl rfl rfl Pick.head rfl) rfl rfl rfl (by decide +kernel) ?_
      refine Draw.take0 rfl (X.len_slice rfl rfl rfl) rfl rfl rfl (by decide +kernel) ?_
      refine Draw.take0 rfl (X.move rfl) rfl rfl rfl (by decide +kernel) ?_
      refine Draw.take0 rfl (X.nilCheck rfl) rfl rfl rfl (by decide +kernel) ?_
      refine Draw.take0 rfl (X.fieldAddr rfl rfl rfl rfl rfl rfl) rfl rfl rfl (by decide +kernel) ?_
      refine Draw.take rfl (X.load1 rfl rfl rfl rfl Pick.head rfl) rfl rfl rfl (by decide +kernel) ?_
      refine Draw.take0 rfl (X.sub_in rfl rfl (IntWalk.i64_in _ (by omega))) rfl rfl rfl (by decide +kernel) ?_
      refine Draw.take0 rfl (X.cmp rfl rfl rfl) rfl rfl rfl (by decide +kernel) ?_
      refine Draw.take0 rfl (X.pick_f rfl rfl) rfl rfl rfl (by decide +kernel) ?_
      (refine Draw.done (by decide +kernel) (hK _ _ ?_); clear hK K)
      refine Run.cond_dec rfl (fun h39 => ?x2) (fun h39 => ?y2)
      case' y2 => exfalso; omega
      case' x2 =>
        refine Run.seq ?_
        (refine Run.region ?_; intro K hK)
        refine Ops.pure H (X.assign rfl) rfl rfl rfl ?_
        (refine Ops.nil (hK _ _ ?_); clear hK K)
    case' x1 => exfalso; omega
    (first | refine Fn.ret1 HF rfl rfl ?_ | refine Fn.ret2 HF rfl rfl rfl ?_ | refine Fn.ret3 HF rfl rfl rfl rfl ?_ | refine Fn.ret0 HF rfl ?_ | refine Fn.fin0 HF rfl ?_ | refine Fn.retG (E := env) HF rfl H (by first | exact RVs.cellN rfl rfl rfl (by first | exact .head | exact .tail .head | exact .tail (.tail .head) | exact .tail (.tail (.tail .head)) | exact .tail (.tail (.tail (.tail .head))) | exact .tail (.tail (.tail (.tail (.tail .head)))) | exact .tail (.tail (.tail (.tail (.tail (.tail .head)))))) (by first | assumption | exact Cs.take rfl) RVs.nil | exact RVs.cellN rfl rfl rfl (by first | exact .head | exact .tail .head | exact .tail (.tail .head) | exact .tail (.tail (.tail .head)) | exact .tail (.tail (.tail (.tail .head))) | exact .tail (.tail (.tail (.tail (.tail .head)))) | exact .tail (.tail (.tail (.tail (.tail (.tail .head)))))) (by first | assumption | exact Cs.take rfl) (RVs.tmp rfl RVs.nil) | exact RVs.cellN rfl rfl rfl (by first | exact .head | exact .tail .head | exact .tail (.tail .head) | exact .tail (.tail (.tail .head)) | exact .tail (.tail (.tail (.tail .head))) | exact .tail (.tail (.tail (.tail (.tail .head)))) | exact .tail (.tail (.tail (.tail (.tail (.tail .head)))))) (by first | assumption | exact Cs.take rfl) (RVs.tmp rfl (RVs.tmp rfl RVs.nil))) rfl ?_)
    exact ⟨by rw [hE], g1, st.ext (H.fr.drop1 (by rw [c1]; exact H.pick .head)), by rw [hab, Ns.send, if_neg (by rw [hE]; decide)]⟩
  have hE : g.abs.sendE (f : Nat) (t : Nat) bs = 0 := by rw [hEE, if_neg (by omega)]
  refine Ops.pure H (X.assign rfl) rfl rfl rfl ?_
  (refine Ops.nil (hK _ _ ?_); clear hK K)
  refine Run.seq ?_
  refine Run.seq ?_
  (refine Run.draw H [] [0, 1, 2, 3, 4, 5, 6, 7, 8, 9, 10, 11, 12, 13, 14, 15] ?_; clear H; intro K hK w H)
  refine Draw.take0 rfl (X.move rfl) rfl rfl rfl (by decide +kernel) ?_
  refine Draw.take0 rfl (X.len_slice rfl rfl rfl) rfl rfl rfl (by decide +kernel) ?_
  refine Draw.take0 rfl (X.cmp rfl rfl rfl) rfl rfl rfl (by decide +kernel) ?_
  refine Draw.take0 rfl (X.move rfl) rfl rfl rfl (by decide +kernel) ?_
  refine Draw.split_dec rfl rfl rfl (fun h28 => ?x3) (fun h28 => ?y3)
  case' y3 =>
    refine Draw.take0 rfl (X.move rfl) rfl rfl rfl (by decide +kernel) ?_
    refine Draw.take0 rfl (X.nilCheck rfl) rfl rfl rfl (by decide +kernel) ?_
    refine Draw.take0 rfl (X.fieldAddr rfl rfl rfl rfl rfl rfl) rfl rfl rfl (by decide +kernel) ?_
    refine Draw.take rfl (X.load1 rfl rfl rfl rfl Pick.head rfl) rfl rfl rfl (by decide +kernel) ?_
    refine Draw.take0 rfl (X.len_slice rfl rfl rfl) rfl rfl rfl (by decide +kernel) ?_
    refine Draw.take0 rfl (X.move rfl) rfl rfl rfl (by decide +kernel) ?_
    refine Draw.take0 rfl (X.nilCheck rfl) rfl rfl rfl (by decide +kernel) ?_
    refine Draw.take0 rfl (X.fieldAddr rfl rfl rfl rfl rfl rfl) rfl rfl rfl (by decide +kernel) ?_
    refine Draw.take rfl (X.load1 rfl rfl rfl rfl Pick.head rfl) rfl rfl rfl (by decide +kernel) ?_
    refine Draw.take0 rfl (X.sub_in rfl rfl (IntWalk.i64_in _ (by omega))) rfl rfl rfl (by decide +kernel) ?_
    refine Draw.take0 rfl (X.cmp rfl rfl rfl) rfl rfl rfl (by decide +kernel) ?_
    refine Draw.take0 rfl (X.pick_f rfl rfl) rfl rfl rfl (by decide +kernel) ?_
    (refine Draw.done (by decide +kernel) (hK _ _ ?_); clear hK K)
    refine Run.cond_dec rfl (fun h39 => ?x4) (fun h39 => ?y4)
    case' y4 =>
      refine Run.skip ?_
      refine Run.seq ?_
      (refine Run.draw H [8, 11] [0, 1, 2, 3, 4, 5, 6, 7, 8, 9, 10, 11] ?_; clear H; intro K hK w H)
      refine Draw.take0 rfl (X.move rfl) rfl rfl rfl (by decide +kernel) ?_
      refine Draw.take0 rfl (X.move rfl) rfl rfl rfl (by decide +kernel) ?_
      refine Draw.take0 rfl (X.nilCheck rfl) rfl rfl rfl (by decide +kernel) ?_
      refine Draw.take0 rfl (X.fieldAddr rfl rfl rfl rfl rfl rfl) rfl rfl rfl (by decide +kernel) ?_
      refine Draw.take rfl (X.load1 rfl rfl rfl rfl Pick.head rfl) rfl rfl rfl (by decide +kernel) ?_
      refine Draw.take0 rfl (X.move rfl) rfl rfl rfl (by decide +kernel) ?_
    case' x4 => exfalso; omega
  case' x3 => exfalso; omega
  have hd := H.fr.drop1 (by rw [c1]; exact H.pick .head)
  refine Draw.eff rfl rfl (by decide +kernel) (Y.call rfl rfl (by first | assumption | decide +kernel) rfl (bclone_any _ _ bs (hbv _ [g.mb] (hfw.trans hd (fun _ h => h) (by simp)) (fun b hb => by simp at hb; exact .inl (.inr (.inr (.inl hb))))) (by omega)) rfl ?_)
  rintro v4 w4 ⟨hB, hf4, hbk⟩
  have hf24 := hd.then hf4
  have c14 := hf24.get c1 (by simp)
  refine ⟨fun e he => by simp at he; subst he; exact c14, ?_⟩
  obtain ⟨va4, vc4, rfl⟩ := hB.slice
  have c24 := c2.ext hf24
  have hsz2 := hd.size
  have hsz4 := hf24.size
  clear H
  have H := ((Holds.start w4 [c.wb]).add true c14 (by simp) (by simp))
  (refine Draw.eff rfl rfl (by decide +kernel) (Y.buildSliceO rfl rfl rfl rfl rfl rfl rfl rfl H ?_); intro b47 w H0 hb47; clear H; have H := H0; clear H0; refine ⟨fun e he => H.at_ e (by simp only [List.mem_cons, List.not_mem_nil, or_false] at he ⊢; grind), ?_⟩)
  refine Draw.last rfl rfl (by decide +kernel) (Y.push (sz := 1) (news := [.slice va4 bs.length vc4]) (c24.keep H.fr (fun b hb hm => (hsbn b hb).1 (by simpa using hm))) rfl rfl rfl rfl rfl rfl H (fun b hb e he => ?_) (by omega) rfl (Src.row (m := 1) H .head (Cs.take rfl)) rfl rfl (by dsimp only; omega) (by omega) rfl ?_)
  · obtain ⟨q1, q2⟩ := hsbn b hb
    simp at he
    rcases he with rfl | rfl <;> dsimp only <;> omega
  have hszp := H.fr.size
  intro sb' soff scap scs w H hc1 hc2 hc3 hc4 hob
  refine Draw2.take rfl (X.nilCheck rfl) rfl rfl rfl (by decide +kernel) ?_
  refine Draw2.take rfl (X.fieldAddr rfl rfl rfl rfl rfl rfl) rfl rfl rfl (by decide +kernel) ?_
  (refine Draw2.eff rfl rfl (by decide +kernel) (Y.store1 rfl rfl rfl rfl rfl rfl H (.tail (.tail .head)) (by repeat (first | exact SetC.zero | apply SetC.succ)) ?_); intro w H0; clear H; have H := H0; clear H0)
  (refine Draw2.done (by decide +kernel) (hK _ _ ?_); clear hK K)
  have hT := H.fr
  have hS4 : ∀ b ∈ c.sb.toList ++ [c.wb], ∀ cs, w4.heap[b]? ≠ some (row cs 5) := by
    intro b hb
    simp at hb
    rcases hb with hb | rfl
    · rw [hb] at c24
      obtain ⟨cs, hcs⟩ := c24.ty
      exact not5 hcs (by decide)
    · exact not5 c14 (by decide)
  have hT2 := hf24.trans (U := c.sb.toList ++ [c.wb]) hT (by simp) (fun x hx _ => hx)
  have st2 := st.trans (st.ok.setWay (c' := ⟨c.wb, some sb', c.ep, c.ss ++ [(bs, .slice va4 bs.length vc4)], c.told, c.came⟩) hc hT2 (fun b hb => by simp at hb; exact hb.symm) rfl (fun b hb => by cases hb; exact hob.imp (fun e => e) (fun e => by omega)) ⟨.slice (some ⟨sb', soff, none⟩) (c.ss.length + 1) scap, H.pick (b := c.wb) (by first | exact .head | exact .tail .head | exact .tail (.tail .head) | exact .tail (.tail (.tail .head)) | exact .tail (.tail (.tail (.tail .head))) | exact .tail (.tail (.tail (.tail (.tail .head)))) | exact .tail (.tail (.tail (.tail (.tail (.tail .head)))))), soff, scap, scs, by simp, by simpa using hc1, hc2, H.pick .head, hc3, hc4.cast rfl (by simp) (by simp)⟩ (fun p hp => by
    simp at hp
    rcases hp with hp | rfl
    · exact .inl hp
    · exact .inr ⟨hB.keepT hT hS4, fun b hb => .inr (by have := hbk b hb; omega)⟩))
  have hab2 : PG.abs { g1 with way := updw g1.way (f, t) ⟨c.wb, some sb', c.ep, c.ss ++ [(bs, .slice va4 bs.length vc4)], c.told, c.came⟩ } = g.abs.setW (f, t) ⟨c.ep, c.ss.map (·.1) ++ [bs], c.told, c.came⟩ := by rw [abs_updw, hab]; simp [absW]
  have hw2 : ({ g1 with way := updw g1.way (f, t) ⟨c.wb, some sb', c.ep, c.ss ++ [(bs, .slice va4 bs.length vc4)], c.told, c.came⟩ } : PG).way (f, t) = some ⟨c.wb, some sb', c.ep, c.ss ++ [(bs, .slice va4 bs.length vc4)], c.told, c.came⟩ := updw_self _ _ _
  have hfl2 : ({ g1 with way := updw g1.way (f, t) ⟨c.wb, some sb', c.ep, c.ss ++ [(bs, .slice va4 bs.length vc4)], c.told, c.came⟩ } : PG).fly = g.fly := hfl
  generalize ({ g1 with way := updw g1.way (f, t) ⟨c.wb, some sb', c.ep, c.ss ++ [(bs, .slice va4 bs.length vc4)], c.told, c.came⟩ } : PG) = g2 at st2 hab2 hw2 hfl2
  have hfl4 : g2.fly.length ≤ 4096 := by rw [hfl2, ← fly_len]; exact hok.fly.1
  have hwa := st2.ok.wayr _ _ hw2
  have hwb := st2.ok.wayb _ _ hw2
  obtain ⟨c', hc'⟩ : ∃ c' : WG, c' = ⟨c.wb, some sb', c.ep, c.ss ++ [(bs, .slice va4 bs.length vc4)], c.told, c.came⟩ := ⟨_, rfl⟩
  rw [← hc'] at hwa hwb
  have hcw : c'.wb = c.wb := by rw [hc']
  have hcs : c'.ss = c.ss ++ [(bs, .slice va4 bs.length vc4)] := by rw [hc']
  have hcl : c'.ss.length = c.ss.length + 1 := by rw [hcs]; simp
  have hce : c'.ep = c.ep := by rw [hc']
  have t1 := H.pick (b := c.wb) (by first | exact .head | exact .tail .head | exact .tail (.tail .head) | exact .tail (.tail (.tail .head)) | exact .tail (.tail (.tail (.tail .head))) | exact .tail (.tail (.tail (.tail (.tail .head)))) | exact .tail (.tail (.tail (.tail (.tail (.tail .head))))))
  clear H
  have H := ((Holds.start w []).add false t1 (by simp) (by simp))
  refine Run.seq ?_
  (refine Run.region ?_; intro K hK)
  refine Ops.pure H (X.move rfl) rfl rfl rfl ?_
  refine Ops.pure H (X.move rfl) rfl rfl rfl ?_
  refine Ops.pure H (X.move rfl) rfl rfl rfl ?_
  refine Ops.pure H (X.move rfl) rfl rfl rfl ?_
  refine Ops.pure H (X.move rfl) rfl rfl rfl ?_
  refine Ops.pure H (X.nilCheck rfl) rfl rfl rfl ?_
  refine Ops.pure H (X.fieldAddr rfl rfl rfl rfl rfl rfl) rfl rfl rfl ?_
  refine Ops.pure H (X.load1 rfl rfl rfl rfl Pick.head rfl) rfl rfl rfl ?_
  refine Ops.pure H (X.len_slice rfl rfl rfl) rfl rfl rfl ?_
  refine Ops.eff rfl (Y.call rfl rfl (by first | assumption | decide +kernel) rfl (packet_at _ c' f t (c.ss.length + 1) hcw (hwa.keep H.fr (by simp) (by simp)) (by omega) (by omega) (by omega) (fun p hp => (hwb p hp).ext H.fr)) rfl ?_)
  rintro v5 w5 ⟨p, hp, hpi, rfl, hf5⟩
  replace H := H.ext hf5
  have hp1 : p = (bs, .slice va4 bs.length vc4) := by
    rw [hcs] at hpi
    simpa using hpi.symm
  subst hp1
  have hBp := (hwb _ hp).ext H.fr
  dsimp only at hBp
  unfold pkC
  skip
  refine Ops.eff rfl (Y.call rfl rfl (by first | assumption | decide +kernel) rfl (flies_at _ g2 ⟨f, t, false, c.ss.length + 1, c'.ep, bs⟩ (.slice va4 bs.length vc4) st2.nb (st2.ok.ext H.fr) hBp (by dsimp only; omega) hfl4) rfl ?_)
  rintro v6 w6 ⟨g3, st3, hab3, _⟩
  replace st3 := st2.trans (.pre st2.ok H.fr st3)
  clear H
  have H := Holds.start w6 []
  (refine Ops.nil (hK _ _ ?_); clear hK K)
  refine Run.seq ?_
  (refine Run.region ?_; intro K hK)
  refine Ops.pure H (X.assign rfl) rfl rfl rfl ?_
  (refine Ops.nil (hK _ _ ?_); clear hK K)
  (first | refine Fn.ret1 HF rfl rfl ?_ | refine Fn.ret2 HF rfl rfl rfl ?_ | refine Fn.ret3 HF rfl rfl rfl rfl ?_ | refine Fn.ret0 HF rfl ?_ | refine Fn.fin0 HF rfl ?_ | refine Fn.retG (E := env) HF rfl H (by first | exact RVs.cellN rfl rfl rfl (by first | exact .head | exact .tail .head | exact .tail (.tail .head) | exact .tail (.tail (.tail .head)) | exact .tail (.tail (.tail (.tail .head))) | exact .tail (.tail (.tail (.tail (.tail .head)))) | exact .tail (.tail (.tail (.tail (.tail (.tail .head)))))) (by first | assumption | exact Cs.take rfl) RVs.nil | exact RVs.cellN rfl rfl rfl (by first | exact .head | exact .tail .head | exact .tail (.tail .head) | exact .tail (.tail (.tail .head)) | exact .tail (.tail (.tail (.tail .head))) | exact .tail (.tail (.tail (.tail (.tail .head)))) | exact .tail (.tail (.tail (.tail (.tail (.tail .head)))))) (by first | assumption | exact Cs.take rfl) (RVs.tmp rfl RVs.nil) | exact RVs.cellN rfl rfl rfl (by first | exact .head | exact .tail .head | exact .tail (.tail .head) | exact .tail (.tail (.tail .head)) | exact .tail (.tail (.tail (.tail .head))) | exact .tail (.tail (.tail (.tail (.tail .head)))) | exact .tail (.tail (.tail (.tail (.tail (.tail .head)))))) (by first | assumption | exact Cs.take rfl) (RVs.tmp rfl (RVs.tmp rfl RVs.nil))) rfl ?_)
  refine ⟨by rw [hE], g3, st3.ext H.fr, ?_⟩
  rw [hab3, hab2, Ns.send, if_pos hE, Int.toNat_natCast, Int.toNat_natCast]
  unfold Ns.send1
  rw [hW, hce]
  simp
end Go.Proofs.Ytpmihcefjdeonaa
