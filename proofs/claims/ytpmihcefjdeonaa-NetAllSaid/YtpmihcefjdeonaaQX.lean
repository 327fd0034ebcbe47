/- Walks of layer 6: the law NetAll. -/
import Derived.Test.YtpmihcefjdeonaaQN
import Derived.Test.YtpmihcefjdeonaaQF
import Derived.Test.YtpmihcefjdeonaaEngJ
import Derived.Test.YtpmihcefjdeonaaQG
import Derived.Test.YtpmihcefjdeonaaQH
namespace Go.Proofs.Ytpmihcefjdeonaa
open Go
set_option maxRecDepth 20000
set_option maxHeartbeats 2000000
attribute [local irreducible] Run Ops Fn Draw Draw2 PureOp StepZ

theorem same_any (z : World) (p : Pk) (v u : Value) (hv : Bts z v p.b) (hu : Bts z u p.b) : Fn env.P 55 [.agg (pkC (p, v)).toArray, .agg (pkC (p, u)).toArray] z fun r w' => r = .bool true ∧ Fr z w' [] := by
  obtain ⟨va, vc, rfl⟩ := hv.slice
  obtain ⟨ua, uc, rfl⟩ := hu.slice
  obtain ⟨fr, to, ack, sq, ep, bs⟩ := p
  have H := Holds.start z []
  unfold pkC
  dsimp only at hv hu ⊢
  have HF := Try.func55; refine Fn.enter Try.func55 Try.ntmps55 rfl rfl rfl ?_
  cases ack with
  | true =>
    refine Run.seq ?_
    (refine Run.region ?_; intro K hK)
    (refine Ops.eff rfl (Y.box rfl rfl rfl H ?_); intro b2 w H0 hb2; clear H; have H := H0; clear H0)
    (refine Ops.eff rfl (Y.box rfl rfl rfl H ?_); intro b3 w H0 hb3; clear H; have H := H0; clear H0)
    refine Ops.pure H (X.assign rfl) rfl rfl rfl ?_
    (refine Ops.nil (hK _ _ ?_); clear hK K)
    refine Run.seq ?_
    (refine Run.region ?_; intro K hK)
    refine Ops.pure H (X.fieldAddr rfl rfl rfl rfl rfl rfl) rfl rfl rfl ?_
    refine Ops.pure H (X.load1 rfl rfl rfl rfl (.tail .head) rfl) rfl rfl rfl ?_
    refine Ops.pure H (X.fieldAddr rfl rfl rfl rfl rfl rfl) rfl rfl rfl ?_
    refine Ops.pure H (X.load1 rfl rfl rfl rfl Pick.head rfl) rfl rfl rfl ?_
    refine Ops.pure H (X.cmp rfl rfl rfl) rfl rfl rfl ?_
    refine Ops.pure H (X.move rfl) rfl rfl rfl ?_
    refine Ops.split_dec rfl rfl (fun h11 => ?x0) (fun h11 => ?y0)
    case' y0 => exfalso; omega
    case' x0 =>
      refine Ops.pure H (X.fieldAddr rfl rfl rfl rfl rfl rfl) rfl rfl rfl ?_
      refine Ops.pure H (X.load1 rfl rfl rfl rfl (.tail .head) rfl) rfl rfl rfl ?_
      refine Ops.pure H (X.fieldAddr rfl rfl rfl rfl rfl rfl) rfl rfl rfl ?_
      refine Ops.pure H (X.load1 rfl rfl rfl rfl Pick.head rfl) rfl rfl rfl ?_
      refine Ops.pure H (X.cmp rfl rfl rfl) rfl rfl rfl ?_
      refine Ops.pure H (X.pick_t rfl rfl) rfl rfl rfl ?_
      refine Ops.pure H (X.move rfl) rfl rfl rfl ?_
      refine Ops.split_dec rfl rfl (fun h18 => ?x1) (fun h18 => ?y1)
      case' y1 => exfalso; omega
      case' x1 =>
        refine Ops.pure H (X.fieldAddr rfl rfl rfl rfl rfl rfl) rfl rfl rfl ?_
        refine Ops.pure H (X.load1 rfl rfl rfl rfl (.tail .head) rfl) rfl rfl rfl ?_
        refine Ops.pure H (X.fieldAddr rfl rfl rfl rfl rfl rfl) rfl rfl rfl ?_
        refine Ops.pure H (X.load1 rfl rfl rfl rfl Pick.head rfl) rfl rfl rfl ?_
        refine Ops.pure H (X.boolEq rfl rfl rfl rfl rfl) rfl rfl rfl ?_
        refine Ops.pure H (X.pick_t rfl rfl) rfl rfl rfl ?_
        refine Ops.pure H (X.move rfl) rfl rfl rfl ?_
        refine Ops.pure H (X.fieldAddr rfl rfl rfl rfl rfl rfl) rfl rfl rfl ?_
        refine Ops.pure H (X.load1 rfl rfl rfl rfl (.tail .head) rfl) rfl rfl rfl ?_
        refine Ops.pure H (X.fieldAddr rfl rfl rfl rfl rfl rfl) rfl rfl rfl ?_
        refine Ops.pure H (X.load1 rfl rfl rfl rfl Pick.head rfl) rfl rfl rfl ?_
        refine Ops.pure H (X.cmp rfl rfl rfl) rfl rfl rfl ?_
        refine Ops.pure H (X.pick_t rfl rfl) rfl rfl rfl ?_
        refine Ops.pure H (X.move rfl) rfl rfl rfl ?_
        refine Ops.split_dec rfl rfl (fun h32 => ?x2) (fun h32 => ?y2)
        case' y2 => exfalso; omega
        case' x2 =>
          refine Ops.pure H (X.fieldAddr rfl rfl rfl rfl rfl rfl) rfl rfl rfl ?_
          refine Ops.pure H (X.load1 rfl rfl rfl rfl (.tail .head) rfl) rfl rfl rfl ?_
          refine Ops.pure H (X.fieldAddr rfl rfl rfl rfl rfl rfl) rfl rfl rfl ?_
          refine Ops.pure H (X.load1 rfl rfl rfl rfl Pick.head rfl) rfl rfl rfl ?_
          refine Ops.pure H (X.cmp rfl rfl rfl) rfl rfl rfl ?_
          refine Ops.pure H (X.pick_t rfl rfl) rfl rfl rfl ?_
          refine Ops.pure H (X.move rfl) rfl rfl rfl ?_
          refine Ops.split_dec rfl rfl (fun h39 => ?x3) (fun h39 => ?y3)
          case' y3 => exfalso; omega
          case' x3 =>
            refine Ops.pure H (X.fieldAddr rfl rfl rfl rfl rfl rfl) rfl rfl rfl ?_
            refine Ops.pure H (X.load1 rfl rfl rfl rfl (.tail .head) rfl) rfl rfl rfl ?_
    refine Ops.eff rfl (Y.bytesV rfl (hv.ext H.fr).bys rfl rfl rfl rfl rfl rfl rfl ?_)
    refine Ops.pure H (X.fieldAddr rfl rfl rfl rfl rfl rfl) rfl rfl rfl ?_
    refine Ops.pure H (X.load1 rfl rfl rfl rfl Pick.head rfl) rfl rfl rfl ?_
    refine Ops.eff rfl (Y.bytesV rfl (hu.ext H.fr).bys rfl rfl rfl rfl rfl rfl rfl ?_)
    refine Ops.pure H (X.strEq rfl rfl) rfl rfl rfl ?_
    refine Ops.pure H (X.pick_t rfl rfl) rfl rfl rfl ?_
    refine Ops.pure H (X.assign rfl) rfl rfl rfl ?_
    (refine Ops.nil (hK _ _ ?_); clear hK K)
    (first | refine Fn.ret1 HF rfl rfl ?_ | refine Fn.ret2 HF rfl rfl rfl ?_ | refine Fn.ret3 HF rfl rfl rfl rfl ?_ | refine Fn.ret0 HF rfl ?_ | refine Fn.fin0 HF rfl ?_ | refine Fn.retG (E := env) HF rfl H (by first | exact RVs.cellN rfl rfl rfl (by first | exact .head | exact .tail .head | exact .tail (.tail .head) | exact .tail (.tail (.tail .head)) | exact .tail (.tail (.tail (.tail .head))) | exact .tail (.tail (.tail (.tail (.tail .head)))) | exact .tail (.tail (.tail (.tail (.tail (.tail .head)))))) (by first | assumption | exact Cs.take rfl) RVs.nil | exact RVs.cellN rfl rfl rfl (by first | exact .head | exact .tail .head | exact .tail (.tail .head) | exact .tail (.tail (.tail .head)) | exact .tail (.tail (.tail (.tail .head))) | exact .tail (.tail (.tail (.tail (.tail .head)))) | exact .tail (.tail (.tail (.tail (.tail (.tail .head)))))) (by first | assumption | exact Cs.take rfl) (RVs.tmp rfl RVs.nil) | exact RVs.cellN rfl rfl rfl (by first | exact .head | exact .tail .head | exact .tail (.tail .head) | exact .tail (.tail (.tail .head)) | exact .tail (.tail (.tail (.tail .head))) | exact .tail (.tail (.tail (.tail (.tail .head)))) | exact .tail (.tail (.tail (.tail (.tail (.tail .head)))))) (by first | assumption | exact Cs.take rfl) (RVs.tmp rfl (RVs.tmp rfl RVs.nil))) rfl ?_)
    exact ⟨by simp, H.fr⟩
  | false =>
    refine Run.seq ?_
    (refine Run.region ?_; intro K hK)
    (refine Ops.eff rfl (Y.box rfl rfl rfl H ?_); intro b2 w H0 hb2; clear H; have H := H0; clear H0)
    (refine Ops.eff rfl (Y.box rfl rfl rfl H ?_); intro b3 w H0 hb3; clear H; have H := H0; clear H0)
    refine Ops.pure H (X.assign rfl) rfl rfl rfl ?_
    (refine Ops.nil (hK _ _ ?_); clear hK K)
    refine Run.seq ?_
    (refine Run.region ?_; intro K hK)
    refine Ops.pure H (X.fieldAddr rfl rfl rfl rfl rfl rfl) rfl rfl rfl ?_
    refine Ops.pure H (X.load1 rfl rfl rfl rfl (.tail .head) rfl) rfl rfl rfl ?_
    refine Ops.pure H (X.fieldAddr rfl rfl rfl rfl rfl rfl) rfl rfl rfl ?_
    refine Ops.pure H (X.load1 rfl rfl rfl rfl Pick.head rfl) rfl rfl rfl ?_
    refine Ops.pure H (X.cmp rfl rfl rfl) rfl rfl rfl ?_
    refine Ops.pure H (X.move rfl) rfl rfl rfl ?_
    refine Ops.split_dec rfl rfl (fun h11 => ?x4) (fun h11 => ?y4)
    case' y4 => exfalso; omega
    case' x4 =>
      refine Ops.pure H (X.fieldAddr rfl rfl rfl rfl rfl rfl) rfl rfl rfl ?_
      refine Ops.pure H (X.load1 rfl rfl rfl rfl (.tail .head) rfl) rfl rfl rfl ?_
      refine Ops.pure H (X.fieldAddr rfl rfl rfl rfl rfl rfl) rfl rfl rfl ?_
      refine Ops.pure H (X.load1 rfl rfl rfl rfl Pick.head rfl) rfl rfl rfl ?_
      refine Ops.pure H (X.cmp rfl rfl rfl) rfl rfl rfl ?_
      refine Ops.pure H (X.pick_t rfl rfl) rfl rfl rfl ?_
      refine Ops.pure H (X.move rfl) rfl rfl rfl ?_
      refine Ops.split_dec rfl rfl (fun h18 => ?x5) (fun h18 => ?y5)
      case' y5 => exfalso; omega
      case' x5 =>
        refine Ops.pure H (X.fieldAddr rfl rfl rfl rfl rfl rfl) rfl rfl rfl ?_
        refine Ops.pure H (X.load1 rfl rfl rfl rfl (.tail .head) rfl) rfl rfl rfl ?_
        refine Ops.pure H (X.fieldAddr rfl rfl rfl rfl rfl rfl) rfl rfl rfl ?_
        refine Ops.pure H (X.load1 rfl rfl rfl rfl Pick.head rfl) rfl rfl rfl ?_
        refine Ops.pure H (X.boolEq rfl rfl rfl rfl rfl) rfl rfl rfl ?_
        refine Ops.pure H (X.pick_t rfl rfl) rfl rfl rfl ?_
        refine Ops.pure H (X.move rfl) rfl rfl rfl ?_
        refine Ops.pure H (X.fieldAddr rfl rfl rfl rfl rfl rfl) rfl rfl rfl ?_
        refine Ops.pure H (X.load1 rfl rfl rfl rfl (.tail .head) rfl) rfl rfl rfl ?_
        refine Ops.pure H (X.fieldAddr rfl rfl rfl rfl rfl rfl) rfl rfl rfl ?_
        refine Ops.pure H (X.load1 rfl rfl rfl rfl Pick.head rfl) rfl rfl rfl ?_
        refine Ops.pure H (X.cmp rfl rfl rfl) rfl rfl rfl ?_
        refine Ops.pure H (X.pick_t rfl rfl) rfl rfl rfl ?_
        refine Ops.pure H (X.move rfl) rfl rfl rfl ?_
        refine Ops.split_dec rfl rfl (fun h32 => ?x6) (fun h32 => ?y6)
        case' y6 => exfalso; omega
        case' x6 =>
          refine Ops.pure H (X.fieldAddr rfl rfl rfl rfl rfl rfl) rfl rfl rfl ?_
          refine Ops.pure H (X.load1 rfl rfl rfl rfl (.tail .head) rfl) rfl rfl rfl ?_
          refine Ops.pure H (X.fieldAddr rfl rfl rfl rfl rfl rfl) rfl rfl rfl ?_
          refine Ops.pure H (X.load1 rfl rfl rfl rfl Pick.head rfl) rfl rfl rfl ?_
          refine Ops.pure H (X.cmp rfl rfl rfl) rfl rfl rfl ?_
          refine Ops.pure H (X.pick_t rfl rfl) rfl rfl rfl ?_
          refine Ops.pure H (X.move rfl) rfl rfl rfl ?_
          refine Ops.split_dec rfl rfl (fun h39 => ?x7) (fun h39 => ?y7)
          case' y7 => exfalso; omega
          case' x7 =>
            refine Ops.pure H (X.fieldAddr rfl rfl rfl rfl rfl rfl) rfl rfl rfl ?_
            refine Ops.pure H (X.load1 rfl rfl rfl rfl (.tail .head) rfl) rfl rfl rfl ?_
    refine Ops.eff rfl (Y.bytesV rfl (hv.ext H.fr).bys rfl rfl rfl rfl rfl rfl rfl ?_)
    refine Ops.pure H (X.fieldAddr rfl rfl rfl rfl rfl rfl) rfl rfl rfl ?_
    refine Ops.pure H (X.load1 rfl rfl rfl rfl Pick.head rfl) rfl rfl rfl ?_
    refine Ops.eff rfl (Y.bytesV rfl (hu.ext H.fr).bys rfl rfl rfl rfl rfl rfl rfl ?_)
    refine Ops.pure H (X.strEq rfl rfl) rfl rfl rfl ?_
    refine Ops.pure H (X.pick_t rfl rfl) rfl rfl rfl ?_
    refine Ops.pure H (X.assign rfl) rfl rfl rfl ?_
    (refine Ops.nil (hK _ _ ?_); clear hK K)
    (first | refine Fn.ret1 HF rfl rfl ?_ | refine Fn.ret2 HF rfl rfl rfl ?_ | refine Fn.ret3 HF rfl rfl rfl rfl ?_ | refine Fn.ret0 HF rfl ?_ | refine Fn.fin0 HF rfl ?_ | refine Fn.retG (E := env) HF rfl H (by first | exact RVs.cellN rfl rfl rfl (by first | exact .head | exact .tail .head | exact .tail (.tail .head) | exact .tail (.tail (.tail .head)) | exact .tail (.tail (.tail (.tail .head))) | exact .tail (.tail (.tail (.tail (.tail .head)))) | exact .tail (.tail (.tail (.tail (.tail (.tail .head)))))) (by first | assumption | exact Cs.take rfl) RVs.nil | exact RVs.cellN rfl rfl rfl (by first | exact .head | exact .tail .head | exact .tail (.tail .head) | exact .tail (.tail (.tail .head)) | exact .tail (.tail (.tail (.tail .head))) | exact .tail (.tail (.tail (.tail (.tail .head)))) | exact .tail (.tail (.tail (.tail (.tail (.tail .head)))))) (by first | assumption | exact Cs.take rfl) (RVs.tmp rfl RVs.nil) | exact RVs.cellN rfl rfl rfl (by first | exact .head | exact .tail .head | exact .tail (.tail .head) | exact .tail (.tail (.tail .head)) | exact .tail (.tail (.tail (.tail .head))) | exact .tail (.tail (.tail (.tail (.tail .head)))) | exact .tail (.tail (.tail (.tail (.tail (.tail .head)))))) (by first | assumption | exact Cs.take rfl) (RVs.tmp rfl (RVs.tmp rfl RVs.nil))) rfl ?_)
    exact ⟨by simp, H.fr⟩
/-- The document's air, as it lies in memory. -/
structure AirAt (w : World) (rb : Nat) (ab : Option Nat) (ps : List (Pk × Value)) : Prop where
  net : ∃ tv yv xv av, w.heap[rb]? = some (row [tv, yv, xv, av] 69) ∧ Lst w av ab 81 6 ps.length (ps.flatMap pkC)
  by_ : ∀ p ∈ ps, Bts w p.2 p.1.b
theorem pk_at {w : World} {v : Value} {ob : Option Nat} {ps : List (Pk × Value)} (h : Lst w v ob 81 6 ps.length (ps.flatMap pkC)) {k : Nat} (hk : k < ps.length) : ∃ b off cap cs, ob = some b ∧ v = .slice (some ⟨b, off, none⟩) ps.length cap ∧ w.heap[b]? = some (row cs 81) ∧ Cs cs (off + k * 6) 6 (pkC ps[k]) ∧ off + cap * 6 ≤ cs.length ∧ ps.length ≤ cap := by
  obtain ⟨b, off, cap, cs, hb', hav, f1, f2, f3, f4, f5⟩ := h.pos (by omega)
  have hsp := pk_split hk
  refine ⟨b, off, cap, cs, hb', hav, f3, (f5.sub (k * 6) 6 (by omega)).cast rfl rfl ?_, f4, f1⟩
  rw [hsp, List.append_assoc, List.drop_append_of_le_length (by rw [pk_len]; simp; omega), List.drop_of_length_le (by rw [pk_len]; simp; omega)]
  simp [pkC]
theorem air_any (z : World) (pb nb rb : Nat) (fb ab : Option Nat) (ps qs : List (Pk × Value)) (hpb : z.heap[pb]? = some (row [.pointer (some ⟨nb, 0, none⟩), .pointer (some ⟨rb, 0, none⟩)] 34)) (hp : FlyAt z nb fb ps) (hq : AirAt z rb ab qs) (he : ps.map (·.1) = qs.map (·.1)) (hl : ps.length ≤ 4096) (hln : ∀ p ∈ ps, p.1.b.length ≤ 65536) :
    Fn env.P 23 [.pointer (some ⟨pb, 0, none⟩)] z fun v w' => v = .bool true ∧ Fr z w' [] := by
  obtain ⟨tv, yv, xv, av, r1, r2⟩ := hq.net
  obtain ⟨aa, ac, rfl, _⟩ := r2.slice
  have hql : qs.length = ps.length := by have := congrArg List.length he; simpa using this.symm
  have npr : pb ≠ rb := ne_of_ty hpb r1 (by decide)
  have H := (Holds.start z []).add false hpb (by simp) (by simp)
  have HF := Try.func23; refine Fn.enter Try.func23 Try.ntmps23 rfl rfl rfl ?_
  refine Run.seq ?_
  (refine Run.region ?_; intro K hK)
  refine Ops.pure H (X.assign rfl) rfl rfl rfl ?_
  (refine Ops.nil (hK _ _ ?_); clear hK K)
  refine Run.seq ?_
  (refine Run.region ?_; intro K hK)
  refine Ops.pure H (X.move rfl) rfl rfl rfl ?_
  refine Ops.pure H (X.nilCheck rfl) rfl rfl rfl ?_
  refine Ops.pure H (X.fieldAddr rfl rfl rfl rfl rfl rfl) rfl rfl rfl ?_
  refine Ops.pure H (X.load1 rfl rfl rfl rfl Pick.head rfl) rfl rfl rfl ?_
  refine Ops.eff rfl (Y.call rfl rfl (by first | assumption | decide +kernel) rfl (flights_fl _ nb fb ps ⟨by obtain ⟨uv, mv, fv, xv, a1, a6⟩ := hp.net; exact ⟨uv, mv, fv, xv, H.fr.get a1 (by simp), a6.ext H.fr⟩, fun p h => (hp.by_ p h).ext H.fr⟩ hl hln) rfl ?_)
  rintro v w1 ⟨hf1, ob, ls, hL, hlm, hob, hlb, hds⟩
  have hsz := H.fr.size
  have hpb1 := (H.fr.then hf1).get hpb (by simp)
  have r11 := (H.fr.then hf1).get r1 (by simp)
  have r21 := r2.ext (H.fr.then hf1)
  have hqb1 : ∀ p ∈ qs, Bts w1 p.2 p.1.b := fun p h => (hq.by_ p h).ext (H.fr.then hf1)
  have hfz := H.fr.then hf1
  have hll : ls.length = qs.length := by have := congrArg List.length hlm; simp at this; omega
  have hlq : ls.map (·.1) = qs.map (·.1) := hlm.trans he
  obtain ⟨la, lc, rfl, _⟩ := hL.slice
  clear H
  have H := ((Holds.start w1 []).add false hpb1 (by simp) (by simp)).add false r11 (by simpa using npr.symm) (by simp)
  have hL0 := hL
  rw [hll] at hL ⊢
  refine Ops.pure H (X.assign rfl) rfl rfl rfl ?_
  (refine Ops.nil (hK _ _ ?_); clear hK K)
  refine Run.seq ?_
  refine Run.seq ?_
  (refine Run.region ?_; intro K hK)
  refine Ops.pure H (X.move rfl) rfl rfl rfl ?_
  refine Ops.pure H (X.len_slice rfl rfl rfl) rfl rfl rfl ?_
  refine Ops.pure H (X.move rfl) rfl rfl rfl ?_
  refine Ops.pure H (X.nilCheck rfl) rfl rfl rfl ?_
  refine Ops.pure H (X.fieldAddr rfl rfl rfl rfl rfl rfl) rfl rfl rfl ?_
  refine Ops.pure H (X.load1 rfl rfl rfl rfl (.tail .head) rfl) rfl rfl rfl ?_
  refine Ops.pure H (X.nilCheck rfl) rfl rfl rfl ?_
  refine Ops.pure H (X.fieldAddr rfl rfl rfl rfl rfl rfl) rfl rfl rfl ?_
  refine Ops.pure H (X.load1 rfl rfl rfl rfl Pick.head rfl) rfl rfl rfl ?_
  refine Ops.pure H (X.len_slice rfl rfl rfl) rfl rfl rfl ?_
  refine Ops.pure H (X.cmp rfl rfl rfl) rfl rfl rfl ?_
  (refine Ops.nil (hK _ _ ?_); clear hK K)
  refine Run.cond_ndec rfl (fun h21 => ?x8) (fun h21 => ?y8)
  case' y8 =>
    refine Run.skip ?_
    refine Run.seq ?_
    refine Run.seq ?_
    (refine Run.region ?_; intro K hK)
    refine Ops.pure H (X.assign rfl) rfl rfl rfl ?_
    (refine Ops.nil (hK _ _ ?_); clear hK K)
    refine Run.block ?_
  case' x8 => exfalso; omega
  clear H
  refine Run.rounds (fun (x : Nat) => [(0, .pointer (some ⟨pb, 0, none⟩)), (3, .slice la qs.length lc), (4, .int .i64 (x : Nat))])
    (fun x w' => x ≤ qs.length ∧ Fr w1 w' []) (fun x => qs.length - x) 0 (by repeat (first | exact trivial | refine ⟨rfl, ?_⟩)) ⟨by omega, Fr.refl _ _⟩ ?_
  rintro x w2 ⟨hx, hf2⟩ IH
  by_cases hlt : x < qs.length
  · obtain ⟨c, off, cap, cs, rfl, e, c1, c2, _, _⟩ := pk_at (hL0.ext hf2) (k := x) (by omega)
    cases e
    obtain ⟨ab', off', cap', cs', rfl, e, d1, d2, _, _⟩ := pk_at (r21.ext hf2) (k := x) (by omega)
    cases e
    have hpx := (hlb _ (List.getElem_mem (by omega : x < ls.length))).1
    have hqx := hqb1 _ (List.getElem_mem (by omega : x < qs.length))
    have hpq : ls[x].1 = qs[x].1 := by
      have := congrArg (·[x]?) hlq
      simpa [hlt, (by omega : x < ls.length)] using this
    obtain ⟨p, hp⟩ : ∃ p, ls[x] = p := ⟨_, rfl⟩
    obtain ⟨q, hq⟩ : ∃ q, qs[x] = q := ⟨_, rfl⟩
    rw [hp] at c2 hpx hpq
    rw [hq] at d2 hqx hpq
    obtain ⟨p, pv⟩ := p
    obtain ⟨q, qv⟩ := q
    dsimp only at hpx hqx hpq
    subst hpq
    have hcz := hob c rfl
    have hdz := lt_of_at d1
    have hcd : c ≠ ab' := by
      obtain ⟨cs0, h0⟩ := r2.ty
      have := lt_of_at h0
      omega
    have H := (((Holds.start w2 []).add false (hf2.get hpb1 (by simp)) (by simp) (by simp)).add false (hf2.get r11 (by simp)) (by simpa using npr.symm) (by simp)).add false d1 (by simpa using ⟨ne_of_ty d1 (hf2.get r11 (by simp)) (by decide), ne_of_ty d1 (hf2.get hpb1 (by simp)) (by decide)⟩) (by simp)
    replace H := H.add false c1 (by simpa using ⟨hcd, ne_of_ty c1 (hf2.get r11 (by simp)) (by decide), ne_of_ty c1 (hf2.get hpb1 (by simp)) (by decide)⟩) (by simp)
    refine Run.seq ?_
    refine Run.seq ?_
    (refine Run.region ?_; intro K hK)
    refine Ops.pure H (X.move rfl) rfl rfl rfl ?_
    refine Ops.pure H (X.move rfl) rfl rfl rfl ?_
    refine Ops.pure H (X.len_slice rfl rfl rfl) rfl rfl rfl ?_
    refine Ops.pure H (X.cmp rfl rfl rfl) rfl rfl rfl ?_
    (refine Ops.nil (hK _ _ ?_); clear hK K)
    refine Run.cond_dec rfl (fun h25 => ?x9) (fun h25 => ?y9)
    case' y9 => exfalso; omega
    case' x9 =>
      refine Run.skip ?_
      refine Run.seq ?_
      refine Run.block ?_
      refine Run.seq ?_
      (refine Run.draw H [] [0, 1, 2, 3, 4, 5, 6, 7, 8, 9, 10, 11, 12, 13, 14, 15] ?_; clear H; intro K hK w H)
      refine Draw.take0 rfl (X.move rfl) rfl rfl rfl (by decide +kernel) ?_
      refine Draw.take0 rfl (X.move rfl) rfl rfl rfl (by decide +kernel) ?_
      refine Draw.take0 rfl (X.indexAddr rfl rfl (by omega) rfl rfl rfl rfl) rfl rfl rfl (by decide +kernel) ?_
      refine Draw.take rfl (X.loadN rfl rfl rfl Pick.head (by assumption)) rfl rfl rfl (by decide +kernel) ?_
      refine Draw.take0 rfl (X.move rfl) rfl rfl rfl (by decide +kernel) ?_
      refine Draw.take0 rfl (X.nilCheck rfl) rfl rfl rfl (by decide +kernel) ?_
      refine Draw.take0 rfl (X.fieldAddr rfl rfl rfl rfl rfl rfl) rfl rfl rfl (by decide +kernel) ?_
      refine Draw.take rfl (X.load1 rfl rfl rfl rfl (.tail (.tail (.tail .head))) rfl) rfl rfl rfl (by decide +kernel) ?_
      refine Draw.take0 rfl (X.nilCheck rfl) rfl rfl rfl (by decide +kernel) ?_
      refine Draw.take0 rfl (X.fieldAddr rfl rfl rfl rfl rfl rfl) rfl rfl rfl (by decide +kernel) ?_
      refine Draw.take rfl (X.load1 rfl rfl rfl rfl (.tail (.tail .head)) rfl) rfl rfl rfl (by decide +kernel) ?_
      refine Draw.take0 rfl (X.move rfl) rfl rfl rfl (by decide +kernel) ?_
      refine Draw.take0 rfl (X.indexAddr rfl rfl (by omega) rfl rfl rfl rfl) rfl rfl rfl (by decide +kernel) ?_
      refine Draw.take rfl (X.loadN rfl rfl rfl (.tail .head) (by assumption)) rfl rfl rfl (by decide +kernel) ?_
    refine Draw.eff rfl rfl (by decide +kernel) (Y.call rfl rfl (by first | assumption | decide +kernel) rfl (same_any _ p pv qv (hpx.ext (hf2.then H.fr)) (hqx.ext (hf2.then H.fr))) rfl ?_)
    rintro v w3 ⟨rfl, hf3⟩
    replace H := H.ext hf3
    refine ⟨H.at_, ?_⟩
    refine Draw.take0 rfl (X.not rfl) rfl rfl rfl (by decide +kernel) ?_
    (refine Draw.done (by decide +kernel) (hK _ _ ?_); clear hK K)
    refine Run.cond_false rfl ?_
    refine Run.skip ?_
    refine Run.inBlock ?_
    (refine Run.region ?_; intro K hK)
    refine Ops.pure H (X.move rfl) rfl rfl rfl ?_
    refine Ops.pure H (X.succ rfl rfl (by omega)) rfl rfl rfl ?_
    refine Ops.pure H (X.assign rfl) rfl rfl rfl ?_
    (refine Ops.nil (hK _ _ ?_); clear hK K)
    exact (IH (x + 1) _ (by omega) ⟨by omega, hf2.then H.fr⟩).weak (by repeat (first | exact trivial | refine ⟨rfl, ?_⟩))
  · obtain rfl : x = qs.length := by omega
    clear IH
    have H := Holds.start w2 []
    refine Run.seq ?_
    refine Run.seq ?_
    (refine Run.region ?_; intro K hK)
    refine Ops.pure H (X.move rfl) rfl rfl rfl ?_
    refine Ops.pure H (X.move rfl) rfl rfl rfl ?_
    refine Ops.pure H (X.len_slice rfl rfl rfl) rfl rfl rfl ?_
    refine Ops.pure H (X.cmp rfl rfl rfl) rfl rfl rfl ?_
    (refine Ops.nil (hK _ _ ?_); clear hK K)
    refine Run.cond_dec rfl (fun h25 => ?x10) (fun h25 => ?y10)
    case' y10 =>
      refine Run.exit rfl ?_
      refine Run.seq ?_
      refine Run.seq ?_
      (refine Run.region ?_; intro K hK)
      refine Ops.pure H (X.assign rfl) rfl rfl rfl ?_
      (refine Ops.nil (hK _ _ ?_); clear hK K)
      refine Run.block ?_
    case' x10 => exfalso; omega
    clear H
    have hF := hfz.then hf2
    refine Run.rounds (fun (x : Nat) => [(3, .slice la qs.length lc), (5, .int .i64 (x : Nat))])
      (fun x w' => x ≤ qs.length ∧ Fr z w' [] ∧ (∀ c off, la = some ⟨c, off, none⟩ → 0 < qs.length → ∃ cs, w'.heap[c]? = some (row cs 81) ∧ off + qs.length * 6 ≤ cs.length ∧ ∀ j p, x ≤ j → ls[j]? = some p → cs[off + j * 6 + 5]? = some p.2) ∧ ∀ j p, x ≤ j → ls[j]? = some p → Bts w' p.2 p.1.b)
      (fun x => qs.length - x) 0 (by repeat (first | exact trivial | refine ⟨rfl, ?_⟩)) ⟨by omega, hF, fun c off e h0 => ?_, fun j p _ hp => (hlb p (List.mem_of_getElem? hp)).1.ext hf2⟩ ?_
    · obtain ⟨c', off', cap', cs', _, e', c1, c2, c3, c4, c5⟩ := hL.pos h0
      rw [e] at e'
      cases e'
      refine ⟨cs', hf2.get c3 (by simp), by omega, fun j p _ hp => ?_⟩
      have hjl := (List.getElem?_eq_some_iff.1 hp).1
      have hpe := (List.getElem?_eq_some_iff.1 hp).2
      obtain ⟨_, off2, cap2, cs2, e1, e2, e3, e4, _⟩ := pk_at hL0 (k := j) hjl
      rw [hll, e] at e2
      cases e2
      rw [c3] at e3
      have e3 : cs' = cs2 := by simpa using e3
      subst e3
      rw [hpe] at e4
      exact e4.get 5 _ rfl
    rintro x w4 ⟨hx, hf4, hrow, hbt⟩ IH
    by_cases hlt : x < qs.length
    · obtain ⟨c, off, cap, cs0, hoc, e, c1, c2, c3, c4, c5⟩ := hL.pos (by omega)
      cases e
      obtain ⟨cs, k4, kl, hcell⟩ := hrow c off rfl (by omega)
      obtain ⟨p, hp⟩ : ∃ p, ls[x]? = some p := ⟨ls[x], by simp [hll, hlt]⟩
      have hxc := hcell x p (Nat.le_refl _) hp
      have hBx := hbt x p (Nat.le_refl _) hp
      obtain ⟨p0, pv⟩ := p
      dsimp only at hBx hxc
      obtain ⟨va, vc, hpv⟩ := hBx.slice
      subst hpv
      have hcz := hob c hoc
      have hlen : p0.b.length ≤ 65536 := by
        have : p0 ∈ ps.map (·.1) := by rw [← hlm]; exact List.mem_map.2 ⟨_, List.mem_of_getElem? hp, rfl⟩
        obtain ⟨q, hq, e⟩ := List.mem_map.1 this
        rw [← e]
        exact hln q hq
      have H := (Holds.start w4 []).add false k4 (by simp) (by simp)
      refine Run.seq ?_
      refine Run.seq ?_
      (refine Run.region ?_; intro K hK)
      refine Ops.pure H (X.move rfl) rfl rfl rfl ?_
      refine Ops.pure H (X.move rfl) rfl rfl rfl ?_
      refine Ops.pure H (X.len_slice rfl rfl rfl) rfl rfl rfl ?_
      refine Ops.pure H (X.cmp rfl rfl rfl) rfl rfl rfl ?_
      (refine Ops.nil (hK _ _ ?_); clear hK K)
      refine Run.cond_dec rfl (fun h47 => ?x11) (fun h47 => ?y11)
      case' y11 => exfalso; omega
      case' x11 =>
        refine Run.skip ?_
        refine Run.seq ?_
        refine Run.block ?_
        refine Run.seq ?_
        (refine Run.region ?_; intro K hK)
        refine Ops.pure H (X.move rfl) rfl rfl rfl ?_
        refine Ops.pure H (X.move rfl) rfl rfl rfl ?_
        refine Ops.pure H (X.indexAddr rfl rfl (by omega) rfl rfl rfl rfl) rfl rfl rfl ?_
        refine Ops.pure H (X.fieldAddr rfl rfl rfl rfl rfl rfl) rfl rfl rfl ?_
        refine Ops.pure H (X.load1 rfl rfl rfl rfl Pick.head (by assumption)) rfl rfl rfl ?_
      refine Ops.eff rfl (Y.call rfl rfl (by first | assumption | decide +kernel) rfl (spoil_any _ _ p0.b (hBx.ext H.fr) (by omega)) rfl ?_)
      intro v w5 hf5
      have hvb : ∀ b ∈ (blkV (.slice va p0.b.length vc)).toList, z.heap.size ≤ b ∧ b ≠ c ∧ b < w4.heap.size := fun b hb => by
        have hb : blkV (.slice va p0.b.length vc) = some b := by simpa using hb
        obtain ⟨cs5, hcs5⟩ := hBx.ty hb
        exact ⟨(hlb _ (List.mem_of_getElem? hp)).2 b hb, ne_of_ty hcs5 k4 (by decide), hBx.lt hb⟩
      have k45 := hf5.get (H.fr.get k4 (by simp)) (fun hm => (hvb c hm).2.1 rfl)
      have hF5 := (hf4.then H.fr).trans (U := []) hf5 (by simp) (fun b hb hl => by have := (hvb b hb).1; omega)
      have hbt5 : ∀ j p, x + 1 ≤ j → ls[j]? = some p → Bts w5 p.2 p.1.b := fun j p hj hpj => ((hbt j p (by omega) hpj).ext H.fr).keep hf5 (fun b hb hm => by
        have hm : blkV (.slice va p0.b.length vc) = some b := by simpa using hm
        exact hds x j _ p b hp hpj (by omega) hm hb)
      clear H
      have H := (Holds.start w5 [c]).add true k45 (by simp) (by simp)
      (refine Ops.nil (hK _ _ ?_); clear hK K)
      (refine Run.region ?_; intro K hK)
      refine Ops.pure H (X.move rfl) rfl rfl rfl ?_
      refine Ops.pure H (X.move rfl) rfl rfl rfl ?_
      refine Ops.pure H (X.buildO rfl rfl rfl rfl rfl rfl) rfl rfl rfl ?_
      refine Ops.pure H (X.indexAddr rfl rfl (by omega) rfl rfl rfl rfl) rfl rfl rfl ?_
      refine Ops.eff rfl (Y.storeN (vs := [.int .i64 0, .int .i64 0, .bool false, .int .u64 4711, .int .u64 0, .slice none 0 0]) rfl rfl rfl rfl rfl rfl H Upd.head (by simp; omega) rfl ?_)
      intro w H
      (refine Ops.nil (hK _ _ ?_); clear hK K)
      refine Run.inBlock ?_
      (refine Run.region ?_; intro K hK)
      refine Ops.pure H (X.move rfl) rfl rfl rfl ?_
      refine Ops.pure H (X.succ rfl rfl (by omega)) rfl rfl rfl ?_
      refine Ops.pure H (X.assign rfl) rfl rfl rfl ?_
      (refine Ops.nil (hK _ _ ?_); clear hK K)
      refine (IH (x + 1) _ (by omega) ⟨by omega, hF5.trans H.fr (by simp) (fun b hb hl => by simp at hb; omega), fun c' off' e _ => ?_, fun j p hj hpj => (hbt5 j p hj hpj).keepT H.fr (fun b hb => by simp at hb; subst hb; exact not5 k45 (by decide))⟩).weak (by repeat (first | exact trivial | refine ⟨rfl, ?_⟩))
      cases e
      refine ⟨_, H.pick (b := c) (by first | exact .head | exact .tail .head | exact .tail (.tail .head) | exact .tail (.tail (.tail .head)) | exact .tail (.tail (.tail (.tail .head))) | exact .tail (.tail (.tail (.tail (.tail .head)))) | exact .tail (.tail (.tail (.tail (.tail (.tail .head)))))), by rw [putC_length]; omega, fun j p hj hpj => ?_⟩
      rw [putC_get _ _ _ (by simp; omega), if_neg (by simp; omega)]
      exact hcell j p (by omega) hpj
    · obtain rfl : x = qs.length := by omega
      have H := Holds.start w4 []
      refine Run.seq ?_
      refine Run.seq ?_
      (refine Run.region ?_; intro K hK)
      refine Ops.pure H (X.move rfl) rfl rfl rfl ?_
      refine Ops.pure H (X.move rfl) rfl rfl rfl ?_
      refine Ops.pure H (X.len_slice rfl rfl rfl) rfl rfl rfl ?_
      refine Ops.pure H (X.cmp rfl rfl rfl) rfl rfl rfl ?_
      (refine Ops.nil (hK _ _ ?_); clear hK K)
      refine Run.cond_dec rfl (fun h47 => ?x12) (fun h47 => ?y12)
      case' y12 =>
        refine Run.exit rfl ?_
        refine Run.seq ?_
        (refine Run.region ?_; intro K hK)
        refine Ops.pure H (X.assign rfl) rfl rfl rfl ?_
        (refine Ops.nil (hK _ _ ?_); clear hK K)
      case' x12 => exfalso; omega
      (first | refine Fn.ret1 HF rfl rfl ?_ | refine Fn.ret2 HF rfl rfl rfl ?_ | refine Fn.ret3 HF rfl rfl rfl rfl ?_ | refine Fn.ret0 HF rfl ?_ | refine Fn.fin0 HF rfl ?_ | refine Fn.retG (E := env) HF rfl H (by first | exact RVs.cellN rfl rfl rfl (by first | exact .head | exact .tail .head | exact .tail (.tail .head) | exact .tail (.tail (.tail .head)) | exact .tail (.tail (.tail (.tail .head))) | exact .tail (.tail (.tail (.tail (.tail .head)))) | exact .tail (.tail (.tail (.tail (.tail (.tail .head)))))) (by first | assumption | exact Cs.take rfl) RVs.nil | exact RVs.cellN rfl rfl rfl (by first | exact .head | exact .tail .head | exact .tail (.tail .head) | exact .tail (.tail (.tail .head)) | exact .tail (.tail (.tail (.tail .head))) | exact .tail (.tail (.tail (.tail (.tail .head)))) | exact .tail (.tail (.tail (.tail (.tail (.tail .head)))))) (by first | assumption | exact Cs.take rfl) (RVs.tmp rfl RVs.nil) | exact RVs.cellN rfl rfl rfl (by first | exact .head | exact .tail .head | exact .tail (.tail .head) | exact .tail (.tail (.tail .head)) | exact .tail (.tail (.tail (.tail .head))) | exact .tail (.tail (.tail (.tail (.tail .head)))) | exact .tail (.tail (.tail (.tail (.tail (.tail .head)))))) (by first | assumption | exact Cs.take rfl) (RVs.tmp rfl (RVs.tmp rfl RVs.nil))) rfl ?_)
      exact ⟨rfl, hf4.then H.fr⟩
end Go.Proofs.Ytpmihcefjdeonaa

namespace Go.Proofs.Ytpmihcefjdeonaa
open Go
set_option maxRecDepth 20000
set_option maxHeartbeats 2000000
attribute [local irreducible] Run Ops Fn Draw Draw2 PureOp StepZ

def Lit0 (z : World) (T : TypeId) (v : Value) (w : World) : Prop := ∃ b, v = .slice (some ⟨b, 0, none⟩) 0 0 ∧ w.heap[b]? = some (row [] T) ∧ z.heap.size ≤ b
def Cpy (z : World) (T sz n : Nat) (vs : List Value) (v : Value) (w : World) : Prop := ∃ b, Lst w v (some b) T sz n vs ∧ z.heap.size ≤ b
theorem Lit0.ext {z w w' : World} {T : TypeId} {v : Value} (h : Lit0 z T v w) (hf : Fr w w' []) : Lit0 z T v w' := by
  obtain ⟨b, h1, h2, h3⟩ := h
  exact ⟨b, h1, hf.get h2 (by simp), h3⟩
theorem Cpy.ext {z w w' : World} {T sz n : Nat} {vs : List Value} {v : Value} (h : Cpy z T sz n vs v w) (hf : Fr w w' []) : Cpy z T sz n vs v w' := by
  obtain ⟨b, h1, h2⟩ := h
  exact ⟨b, h1.ext hf, h2⟩
theorem rcopy_any (z : World) (g : RG) (k : Nat) {rb : Nat} (hrb : g.rb = rb) (h : RN z g) (hok : g.abs.Ok k) : Fn env.P 22 [.pointer (some ⟨rb, 0, none⟩)] z fun v w' => ∃ g' : RG, v = .pointer (some ⟨g'.rb, 0, none⟩) ∧ RN w' g' ∧ Fr z w' [] ∧ g'.abs = g.abs ∧ (∀ b, RS g' b → z.heap.size ≤ b ∨ (RS g b ∧ ∃ cs T, (T = 52 ∨ T = 28) ∧ z.heap[b]? = some (row cs T))) ∧ ∀ b, RB g' b → RB g b := by
  subst hrb
  have hfl : g.air.length ≤ 4096 := by rw [← rfly_len]; exact hok.fly.1
  have hn64 := h.n64
  obtain ⟨tv, yv, xv, av, a1, a2, a3, a4, a5⟩ := h.net
  obtain ⟨ta, tc, rfl, _⟩ := a2.slice
  obtain ⟨ya, yc, rfl, _⟩ := a3.slice
  obtain ⟨xa, xc, rfl, _⟩ := a4.slice
  obtain ⟨aa, ac, rfl, _⟩ := a5.slice
  have H := (Holds.start z []).add false a1 (by simp) (by simp)
  have HF := Try.func22; refine Fn.enter Try.func22 Try.ntmps22 rfl rfl rfl ?_
  refine Run.seq ?_
  (refine Run.region ?_; intro K hK)
  refine Ops.pure H (X.assign rfl) rfl rfl rfl ?_
  (refine Ops.nil (hK _ _ ?_); clear hK K)
  refine Run.seq ?_
  refine Run.draw H [] [1, 2, 3, 4, 7, 8, 9, 10, 13, 14, 15, 16] ?_
  clear H
  intro K hK w H
  refine Draw.take0 rfl (X.move rfl) rfl rfl rfl (by decide +kernel) ?_
  refine Draw.take0 rfl (X.nilCheck rfl) rfl rfl rfl (by decide +kernel) ?_
  refine Draw.take0 rfl (X.fieldAddr rfl rfl rfl rfl rfl rfl) rfl rfl rfl (by decide +kernel) ?_
  refine Draw.take rfl (X.load1 rfl rfl rfl rfl Pick.head rfl) rfl rfl rfl (by decide +kernel) ?_
  refine Draw.take0 rfl (X.move rfl) rfl rfl rfl (by decide +kernel) ?_
  refine Draw.take0 rfl (X.nilCheck rfl) rfl rfl rfl (by decide +kernel) ?_
  refine Draw.take0 rfl (X.fieldAddr rfl rfl rfl rfl rfl rfl) rfl rfl rfl (by decide +kernel) ?_
  refine Draw.take rfl (X.load1 rfl rfl rfl rfl Pick.head rfl) rfl rfl rfl (by decide +kernel) ?_
  refine Draw.take0 rfl (X.move rfl) rfl rfl rfl (by decide +kernel) ?_
  refine Draw.take0 rfl (X.nilCheck rfl) rfl rfl rfl (by decide +kernel) ?_
  refine Draw.take0 rfl (X.fieldAddr rfl rfl rfl rfl rfl rfl) rfl rfl rfl (by decide +kernel) ?_
  refine Draw.take rfl (X.load1 rfl rfl rfl rfl Pick.head rfl) rfl rfl rfl (by decide +kernel) ?_
  have hFw := H.fr
  have hc : Kept [⟨g.rb, row [.slice ta g.n tc, .slice ya g.n yc, .slice xa g.n xc, .slice aa g.air.length ac] 69, false⟩] w := H.at_
  refine Draw.anyTab [(0, 5, []), (5, 10, [0]), (6, 11, []), (11, 16, [6]), (12, 17, []), (17, 22, [12])] [18, 19, 20] 3
    (fun i v w' => match i with | 0 => Lit0 z 4 v w' | 5 => Cpy z 4 1 g.n ((List.range g.n).flatMap fun i => [.bool (g.up i)]) v w' | 6 => Lit0 z 72 v w' | 11 => Cpy z 72 1 g.n ((List.range g.n).flatMap fun i => [g.bv i]) v w' | 12 => Lit0 z 81 v w' | 17 => Cpy z 81 6 g.air.length (g.air.flatMap pkC) v w' | _ => False)
    (by decide +kernel) rfl ?_ ?_ ?_
  · intro p hp v w1 w2 hf hΦ
    simp only [List.mem_cons, List.not_mem_nil, or_false] at hp
    rcases hp with rfl | rfl | rfl | rfl | rfl | rfl
    · exact Lit0.ext hΦ hf
    · exact Cpy.ext hΦ hf
    · exact Lit0.ext hΦ hf
    · exact Cpy.ext hΦ hf
    · exact Lit0.ext hΦ hf
    · exact Cpy.ext hΦ hf
  · intro p hp o ho ρ w1 hf hpre
    simp only [List.mem_cons, List.not_mem_nil, or_false] at hp
    have hzw := (hFw.then hf).size
    have hLit : ∀ (T : TypeId), ∀ b w2, Holds w1 [] w2 [⟨b, row [] T, true⟩] → w1.heap.size ≤ b → Fr w1 w2 [] ∧ Lit0 z T (.slice (some ⟨b, 0, none⟩) 0 0) w2 := fun T b w2 H hb => ⟨H.fr, b, rfl, H.pick .head, Nat.le_trans hzw hb⟩
    rcases hp with rfl | rfl | rfl | rfl | rfl | rfl <;> obtain rfl := Option.some.inj ho
    · refine Y.buildSliceO rfl rfl rfl rfl rfl rfl rfl rfl (Holds.start w1 ([] : List Nat)) ?_
      intro b w2 H1 hb
      obtain ⟨q1, q2⟩ := hLit 4 b w2 H1 hb
      exact ⟨q1, _, rfl, q2⟩
    · obtain ⟨b, hv, hb, hz⟩ := hpre 0 (by simp)
      dsimp only [slotsOf]
      rw [hv]
      refine Y.copyOf2 (sz := 1) (news := (List.range g.n).flatMap fun i => [.bool (g.up i)]) rfl rfl rfl rfl rfl rfl (((Holds.start z []).ext (hFw.then hf)).add true hb (by simp) (fun _ => .inr hz)) .head hz a2.len ((a2.ext (hFw.then hf)).src) rfl (by dsimp only; omega) (by omega) rfl ?_
      intro v' b' w2 _ hf2 hL2 hb2 _
      exact ⟨hf2, _, rfl, b', hL2, hb2⟩
    · refine Y.buildSliceO rfl rfl rfl rfl rfl rfl rfl rfl (Holds.start w1 ([] : List Nat)) ?_
      intro b w2 H1 hb
      obtain ⟨q1, q2⟩ := hLit 72 b w2 H1 hb
      exact ⟨q1, _, rfl, q2⟩
    · obtain ⟨b, hv, hb, hz⟩ := hpre 6 (by simp)
      dsimp only [slotsOf]
      rw [hv]
      refine Y.copyOf2 (sz := 1) (news := (List.range g.n).flatMap fun i => [g.bv i]) rfl rfl rfl rfl rfl rfl (((Holds.start z []).ext (hFw.then hf)).add true hb (by simp) (fun _ => .inr hz)) .head hz a4.len ((a4.ext (hFw.then hf)).src) rfl (by dsimp only; omega) (by omega) rfl ?_
      intro v' b' w2 _ hf2 hL2 hb2 _
      exact ⟨hf2, _, rfl, b', hL2, hb2⟩
    · refine Y.buildSliceO rfl rfl rfl rfl rfl rfl rfl rfl (Holds.start w1 ([] : List Nat)) ?_
      intro b w2 H1 hb
      obtain ⟨q1, q2⟩ := hLit 81 b w2 H1 hb
      exact ⟨q1, _, rfl, q2⟩
    · obtain ⟨b, hv, hb, hz⟩ := hpre 12 (by simp)
      dsimp only [slotsOf]
      rw [hv]
      refine Y.copyOf2 (sz := 6) (news := g.air.flatMap pkC) rfl rfl rfl rfl rfl rfl (((Holds.start z []).ext (hFw.then hf)).add true hb (by simp) (fun _ => .inr hz)) .head hz a5.len ((a5.ext (hFw.then hf)).src) rfl (by dsimp only; omega) (by omega) rfl ?_
      intro v' b' w2 _ hf2 hL2 hb2 _
      exact ⟨hf2, _, rfl, b', hL2, hb2⟩
  · intro ρ w1 hf1 hall
    obtain ⟨tb1, hT1, hzt⟩ : Cpy z 4 1 g.n ((List.range g.n).flatMap fun i => [.bool (g.up i)]) (ρ 5) w1 := hall (5, 10, [0]) (by simp)
    obtain ⟨xb1, hX1, hzx⟩ : Cpy z 72 1 g.n ((List.range g.n).flatMap fun i => [g.bv i]) (ρ 11) w1 := hall (11, 16, [6]) (by simp)
    obtain ⟨ab1, hA1, hza⟩ : Cpy z 81 6 g.air.length (g.air.flatMap pkC) (ρ 17) w1 := hall (17, 22, [12]) (by simp)
    dsimp only [List.map, List.foldl, List.cons_append, List.nil_append]
    generalize ρ 0 = r0
    generalize ρ 6 = r6
    generalize ρ 12 = r12
    generalize ρ 5 = tv1 at hT1 ⊢
    generalize ρ 11 = xv1 at hX1 ⊢
    generalize ρ 17 = av1 at hA1 ⊢
    obtain ⟨ta1, tc1, rfl, _⟩ := hT1.slice
    obtain ⟨xa1, xc1, rfl, _⟩ := hX1.slice
    obtain ⟨aa1, ac1, rfl, _⟩ := hA1.slice
    have a1w := (hFw.then hf1).get a1 (by simp)
    have hz1 := (hFw.then hf1).size
    have hFz := hFw.then hf1
    clear H
    have H := (Holds.start w1 []).add false a1w (by simp) (by simp)
    refine Draw.take0 rfl (X.buildO rfl rfl rfl rfl rfl rfl) rfl rfl rfl (by decide +kernel) ?_
    (refine Draw.eff rfl rfl (by decide +kernel) (Y.box rfl rfl rfl H ?_); intro b24 w H0 hb24; clear H; have H := H0; clear H0; refine ⟨fun e he => H.at_ e (by simp only [List.mem_cons, List.not_mem_nil, or_false] at he ⊢; grind), ?_⟩)
    refine Draw.take0 rfl (X.assign rfl) rfl rfl rfl (by decide +kernel) ?_
    (refine Draw.done (by decide +kernel) (hK _ _ ?_); clear hK K)
    refine Run.seq ?_
    refine Run.seq ?_
    (refine Run.region ?_; intro K hK)
    refine Ops.pure H (X.assign rfl) rfl rfl rfl ?_
    (refine Ops.nil (hK _ _ ?_); clear hK K)
    refine Run.block ?_
    obtain ⟨cb, hcb⟩ : ∃ cb, cb = b24 := ⟨_, rfl⟩
    subst hcb
    have hzc : z.heap.size ≤ cb := by omega
    have hlr := lt_of_at a1
    have hcr : cb ≠ g.rb := by omega
    obtain ⟨yoff, ycap, ycs, ey, y2, y3, y4, y5, y6⟩ := a3
    cases ey
    have hly := lt_of_at y4
    have hFw2 := H.fr
    refine Run.rounds (fun (x : Nat) => [(0, .pointer (some ⟨g.rb, 0, none⟩)), (3, .pointer (some ⟨cb, 0, none⟩)), (4, .int .i64 (x : Nat))])
      (fun x w' => x ≤ g.n ∧ Fr z w' [] ∧ Lst w' (.slice ta1 g.n tc1) (some tb1) 4 1 g.n ((List.range g.n).flatMap fun i => [.bool (g.up i)]) ∧ Lst w' (.slice xa1 g.n xc1) (some xb1) 72 1 g.n ((List.range g.n).flatMap fun i => [g.bv i]) ∧ Lst w' (.slice aa1 g.air.length ac1) (some ab1) 81 6 g.air.length (g.air.flatMap pkC) ∧
        ∃ (yv1 : Value) (rv1 : Nat → Value) (rows1 : Nat → Nat), w'.heap[cb]? = some (row [.slice ta1 g.n tc1, yv1, .slice xa1 g.n xc1, .slice aa1 g.air.length ac1] 69) ∧ Own w' z.heap.size 96 1 yv1 x ((List.range x).flatMap fun i => [rv1 i]) ∧ (∀ i, i < x → z.heap.size ≤ rows1 i ∧ Lst w' (rv1 i) (some (rows1 i)) 99 4 g.n ((List.range g.n).flatMap fun j => rwC (g.way (i, j)))) ∧ ∀ i j, i < x → j < x → i ≠ j → rows1 i ≠ rows1 j)
      (fun x => g.n - x) 0 (by repeat (first | exact trivial | refine ⟨rfl, ?_⟩)) ⟨by omega, hFz.then hFw2, hT1.ext hFw2, hX1.ext hFw2, hA1.ext hFw2, .slice none 0 0, fun _ => undef, fun _ => 0, H.pick (b := cb) (by first | exact .head | exact .tail .head | exact .tail (.tail .head) | exact .tail (.tail (.tail .head)) | exact .tail (.tail (.tail (.tail .head))) | exact .tail (.tail (.tail (.tail (.tail .head)))) | exact .tail (.tail (.tail (.tail (.tail (.tail .head)))))), Own.nil, fun i hi => by omega, fun i j hi => by omega⟩ ?_
    clear H hall hT1 hX1 hA1 hFw2 a1w hb24
    rintro x w2 ⟨hx, hF, lT, lX, lA, yv1, rv1, rows1, k24, oY, hrows, hdist⟩ IH
    have a12 := hF.get a1 (by simp)
    have y42 := hF.get y4 (by simp)
    have hyr : g.yb ≠ g.rb := ne_of_ty y4 a1 (by decide)
    obtain ⟨ya1, yc1, rfl⟩ := oY.slice
    by_cases hlt : x < g.n
    · obtain ⟨roff, rcap, rcs, hrv, q2, q3, q4, q5, q6⟩ := (h.rowr x hlt).ext hF
      have hyc : ycs[yoff + x * 1]? = some (.slice (some ⟨g.rows x, roff, none⟩) g.n rcap) := by
        have := Cs.flat (sz := 1) (f := fun i => [g.rv i]) (fun _ => rfl) y6 hlt
        rw [← hrv]
        exact this.get 0 _ rfl
      have H := (((Holds.start w2 [cb]).add true k24 (by simp) (by simp)).add false a12 (by simpa using hcr.symm) (by simp)).add false y42 (by simpa using ⟨hyr, by omega⟩) (by simp)
      replace H := H.add false q4 (by simpa using ⟨ne_of_ty q4 y42 (by decide), ne_of_ty q4 a12 (by decide), ne_of_ty q4 k24 (by decide)⟩) (by simp)
      refine Run.seq ?_
      refine Run.seq ?_
      (refine Run.region ?_; intro K hK)
      refine Ops.pure H (X.move rfl) rfl rfl rfl ?_
      refine Ops.pure H (X.move rfl) rfl rfl rfl ?_
      refine Ops.pure H (X.nilCheck rfl) rfl rfl rfl ?_
      refine Ops.pure H (X.fieldAddr rfl rfl rfl rfl rfl rfl) rfl rfl rfl ?_
      refine Ops.pure H (X.load1 rfl rfl rfl rfl (.tail (.tail .head)) rfl) rfl rfl rfl ?_
      refine Ops.pure H (X.len_slice rfl rfl rfl) rfl rfl rfl ?_
      refine Ops.pure H (X.cmp rfl rfl rfl) rfl rfl rfl ?_
      (refine Ops.nil (hK _ _ ?_); clear hK K)
      refine Run.cond_dec rfl (fun h31 => ?x0) (fun h31 => ?y0)
      case' y0 => exfalso; omega
      case' x0 =>
        refine Run.skip ?_
        refine Run.seq ?_
        refine Run.block ?_
        (refine Run.draw H [18] [0, 1, 2, 3, 4, 6, 7, 8, 9, 10, 11, 12, 5, 13, 14, 15, 16, 17, 18] ?_; clear H; intro K hK w H)
        refine Draw.take0 rfl (X.move rfl) rfl rfl rfl (by decide +kernel) ?_
        refine Draw.take0 rfl (X.move rfl) rfl rfl rfl (by decide +kernel) ?_
        refine Draw.take0 rfl (X.nilCheck rfl) rfl rfl rfl (by decide +kernel) ?_
        refine Draw.take0 rfl (X.fieldAddr rfl rfl rfl rfl rfl rfl) rfl rfl rfl (by decide +kernel) ?_
        refine Draw.take rfl (X.load1 rfl rfl rfl rfl (.tail (.tail (.tail .head))) rfl) rfl rfl rfl (by decide +kernel) ?_
        refine Draw.take0 rfl (X.move rfl) rfl rfl rfl (by decide +kernel) ?_
        refine Draw.take0 rfl (X.nilCheck rfl) rfl rfl rfl (by decide +kernel) ?_
        refine Draw.take0 rfl (X.fieldAddr rfl rfl rfl rfl rfl rfl) rfl rfl rfl (by decide +kernel) ?_
        refine Draw.take rfl (X.load1 rfl rfl rfl rfl (.tail (.tail .head)) rfl) rfl rfl rfl (by decide +kernel) ?_
        refine Draw.take0 rfl (X.move rfl) rfl rfl rfl (by decide +kernel) ?_
        refine Draw.take0 rfl (X.indexAddr rfl rfl (by omega) rfl rfl rfl rfl) rfl rfl rfl (by decide +kernel) ?_
        refine Draw.take rfl (X.load1 rfl rfl rfl rfl (.tail .head) (by assumption)) rfl rfl rfl (by decide +kernel) ?_
        (refine Draw.eff rfl rfl (by decide +kernel) (Y.buildSliceO rfl rfl rfl rfl rfl rfl rfl rfl H ?_); intro b39 w H0 hb39; clear H; have H := H0; clear H0; refine ⟨fun e he => H.at_ e (by simp only [List.mem_cons, List.not_mem_nil, or_false] at he ⊢; grind), ?_⟩)
      have hb39l := lt_of_at (H.pick .head)
      refine Draw.eff rfl rfl (by decide +kernel) (Y.copyOf2 (sz := 4) (news := (List.range g.n).flatMap fun j => rwC (g.way (x, j))) rfl rfl rfl rfl rfl rfl H .head hb39 q6.length (Src.row H (.tail (by first | exact .head | exact .tail .head)) q6) rfl (by dsimp only; omega) (by omega) rfl ?_)
      intro v' nb w3 H3 hf3 hL3 hz3 _
      refine ⟨fun e he => H3.at_ e he, ?_⟩
      obtain ⟨noff, nc, ncs, e, n1, n2, n3, n4, n5⟩ := hL3
      cases e
      have hsz2 := hF.size
      have hrx := lt_of_at q4
      have hnr : nb ≠ g.rows x := by omega
      clear H
      have H := H3.add false n3 (by simpa using ⟨hnr, ne_of_ty n3 (H3.pick (b := g.yb) (by first | exact .head | exact .tail .head | exact .tail (.tail .head) | exact .tail (.tail (.tail .head)) | exact .tail (.tail (.tail (.tail .head))) | exact .tail (.tail (.tail (.tail (.tail .head)))) | exact .tail (.tail (.tail (.tail (.tail (.tail .head))))))) (by decide), ne_of_ty n3 (H3.pick (b := g.rb) (by first | exact .head | exact .tail .head | exact .tail (.tail .head) | exact .tail (.tail (.tail .head)) | exact .tail (.tail (.tail (.tail .head))) | exact .tail (.tail (.tail (.tail (.tail .head)))) | exact .tail (.tail (.tail (.tail (.tail (.tail .head))))))) (by decide), ne_of_ty n3 (H3.pick (b := cb) (by first | exact .head | exact .tail .head | exact .tail (.tail .head) | exact .tail (.tail (.tail .head)) | exact .tail (.tail (.tail (.tail .head))) | exact .tail (.tail (.tail (.tail (.tail .head)))) | exact .tail (.tail (.tail (.tail (.tail (.tail .head))))))) (by decide)⟩) (by simp)
      clear H3
      (refine Draw.eff rfl rfl (by decide +kernel) (Y.buildSliceO rfl rfl rfl rfl rfl rfl rfl rfl H ?_); intro b48 w H0 hb48; clear H; have H := H0; clear H0; refine ⟨fun e he => H.at_ e (by simp only [List.mem_cons, List.not_mem_nil, or_false] at he ⊢; grind), ?_⟩)
      have hK4 := KeepT.of1 H.fr k24
      have hF4 := hF.trans (U := []) H.fr (by simp) (fun b hb hl => by simp at hb; omega)
      have k3 := H.pick (b := cb) (by first | exact .head | exact .tail .head | exact .tail (.tail .head) | exact .tail (.tail (.tail .head)) | exact .tail (.tail (.tail (.tail .head))) | exact .tail (.tail (.tail (.tail (.tail .head)))) | exact .tail (.tail (.tail (.tail (.tail (.tail .head))))))
      have y3' := H.pick (b := g.yb) (by first | exact .head | exact .tail .head | exact .tail (.tail .head) | exact .tail (.tail (.tail .head)) | exact .tail (.tail (.tail (.tail .head))) | exact .tail (.tail (.tail (.tail (.tail .head)))) | exact .tail (.tail (.tail (.tail (.tail (.tail .head))))))
      have q43 := H.pick (b := g.rows x) (by first | exact .head | exact .tail .head | exact .tail (.tail .head) | exact .tail (.tail (.tail .head)) | exact .tail (.tail (.tail (.tail .head))) | exact .tail (.tail (.tail (.tail (.tail .head)))) | exact .tail (.tail (.tail (.tail (.tail (.tail .head))))))
      have a13 := H.pick (b := g.rb) (by first | exact .head | exact .tail .head | exact .tail (.tail .head) | exact .tail (.tail (.tail .head)) | exact .tail (.tail (.tail (.tail .head))) | exact .tail (.tail (.tail (.tail (.tail .head)))) | exact .tail (.tail (.tail (.tail (.tail (.tail .head))))))
      have n33 := H.pick (b := nb) (by first | exact .head | exact .tail .head | exact .tail (.tail .head) | exact .tail (.tail (.tail .head)) | exact .tail (.tail (.tail (.tail .head))) | exact .tail (.tail (.tail (.tail (.tail .head)))) | exact .tail (.tail (.tail (.tail (.tail (.tail .head))))))
      have hswt := H.fr.size
      refine Draw.eff rfl rfl (by decide +kernel) (Y.appendOwnS (w0 := z) (S := []) (news := [.slice (some ⟨nb, noff, none⟩) g.n nc]) (oY.kt hK4 (by decide)) rfl rfl rfl rfl rfl rfl hF4 (by omega) rfl (Src.row (m := 1) H .head (Cs.take rfl)) rfl rfl (by dsimp only; omega) (by omega) rfl ?_)
      intro v7 w7 hF7 hK7 hlow7 oY7
      have k7 := hK7.row k3 (by decide)
      have y7 := (hlow7 g.yb hly).trans y3'
      have q7 := hK7.row q43 (by decide)
      have a17 := hK7.row a13 (by decide)
      refine ⟨fun e he => by simp only [List.mem_cons, List.not_mem_nil, or_false] at he; rcases he with rfl | rfl | rfl | rfl; exact q7; exact y7; exact a17; exact k7, ?_⟩
      obtain ⟨ya7, yc7, rfl⟩ := oY7.slice
      have hL7 : Lst w7 (.slice (some ⟨nb, noff, none⟩) g.n nc) (some nb) 99 4 g.n ((List.range g.n).flatMap fun j => rwC (g.way (x, j))) := ⟨noff, nc, ncs, rfl, n1, n2, hK7.row n33 (by decide), n4, n5⟩
      have hr7 : ∀ i, i < x → z.heap.size ≤ rows1 i ∧ Lst w7 (rv1 i) (some (rows1 i)) 99 4 g.n ((List.range g.n).flatMap fun j => rwC (g.way (i, j))) := fun i hi => ⟨(hrows i hi).1, ((hrows i hi).2.kt1 hK4 (by decide)).kt1 hK7 (by decide)⟩
      have lT7 := (lT.kt1 hK4 (by decide)).kt1 hK7 (by decide)
      have lX7 := (lX.kt1 hK4 (by decide)).kt1 hK7 (by decide)
      have lA7 := (lA.kt1 hK4 (by decide)).kt1 hK7 (by decide)
      have hnz : z.heap.size ≤ nb := by omega
      have hrl : ∀ i, i < x → rows1 i < w2.heap.size := fun i hi => (hrows i hi).2.lt rfl
      clear H
      have H := (Holds.start w7 [cb]).add true k7 (by simp) (by simp)
      refine Draw.take0 rfl (X.nilCheck rfl) rfl rfl rfl (by decide +kernel) ?_
      refine Draw.take0 rfl (X.fieldAddr rfl rfl rfl rfl rfl rfl) rfl rfl rfl (by decide +kernel) ?_
      (refine Draw.last rfl rfl (by decide +kernel) (Y.store1 rfl rfl rfl rfl rfl rfl H Upd.head (by repeat (first | exact SetC.zero | apply SetC.succ)) ?_); intro w H0; clear H; have H := H0; clear H0)
      (refine Draw2.done (by decide +kernel) (hK _ _ ?_); clear hK K)
      refine Run.inBlock ?_
      (refine Run.region ?_; intro K hK)
      refine Ops.pure H (X.move rfl) rfl rfl rfl ?_
      refine Ops.pure H (X.succ rfl rfl (by omega)) rfl rfl rfl ?_
      refine Ops.pure H (X.assign rfl) rfl rfl rfl ?_
      (refine Ops.nil (hK _ _ ?_); clear hK K)
      have hKr := KeepT.of1 H.fr k7
      have hF9 := hF7.trans (U := []) H.fr (by simp) (fun y hy hl => by simp at hy; omega)
      refine (IH (x + 1) _ (by omega) ⟨by omega, hF9, lT7.kt1 hKr (by decide), lX7.kt1 hKr (by decide), lA7.kt1 hKr (by decide), .slice ya7 (x + 1) yc7, updb rv1 x (.slice (some ⟨nb, noff, none⟩) g.n nc), updb rows1 x nb, H.pick (b := cb) (by first | exact .head | exact .tail .head | exact .tail (.tail .head) | exact .tail (.tail (.tail .head)) | exact .tail (.tail (.tail (.tail .head))) | exact .tail (.tail (.tail (.tail (.tail .head)))) | exact .tail (.tail (.tail (.tail (.tail (.tail .head)))))), ?_, fun i hi => ?_, fun i j hi hj hij => ?_⟩).weak (by repeat (first | exact trivial | refine ⟨rfl, ?_⟩))
      · rw [flat_succ, updb_self, flat_congr (g := fun i => [rv1 i]) (fun i hi => by rw [updb_ne (by omega)])]
        exact oY7.kt hKr (by decide)
      · by_cases e : i = x
        · subst e
          rw [updb_self, updb_self]
          exact ⟨hnz, hL7.kt1 hKr (by decide)⟩
        · rw [updb_ne e, updb_ne e]
          exact ⟨(hr7 i (by omega)).1, (hr7 i (by omega)).2.kt1 hKr (by decide)⟩
      · by_cases e : i = x
        · subst e
          rw [updb_self, updb_ne (fun e => hij e.symm)]
          have := hrl j (by omega)
          omega
        · rw [updb_ne e]
          by_cases e' : j = x
          · subst e'
            rw [updb_self]
            have := hrl i (by omega)
            omega
          · rw [updb_ne e']
            exact hdist i j (by omega) (by omega) hij
    · obtain rfl : x = g.n := by omega
      have H := ((Holds.start w2 []).add false k24 (by simp) (by simp)).add false a12 (by simpa using hcr.symm) (by simp)
      refine Run.seq ?_
      refine Run.seq ?_
      (refine Run.region ?_; intro K hK)
      refine Ops.pure H (X.move rfl) rfl rfl rfl ?_
      refine Ops.pure H (X.move rfl) rfl rfl rfl ?_
      refine Ops.pure H (X.nilCheck rfl) rfl rfl rfl ?_
      refine Ops.pure H (X.fieldAddr rfl rfl rfl rfl rfl rfl) rfl rfl rfl ?_
      refine Ops.pure H (X.load1 rfl rfl rfl rfl Pick.head rfl) rfl rfl rfl ?_
      refine Ops.pure H (X.len_slice rfl rfl rfl) rfl rfl rfl ?_
      refine Ops.pure H (X.cmp rfl rfl rfl) rfl rfl rfl ?_
      (refine Ops.nil (hK _ _ ?_); clear hK K)
      refine Run.cond_dec rfl (fun h31 => ?x1) (fun h31 => ?y1)
      case' y1 =>
        refine Run.exit rfl ?_
        refine Run.seq ?_
        (refine Run.region ?_; intro K hK)
        refine Ops.pure H (X.move rfl) rfl rfl rfl ?_
        refine Ops.pure H (X.assign rfl) rfl rfl rfl ?_
        (refine Ops.nil (hK _ _ ?_); clear hK K)
      case' x1 => exfalso; omega
      (first | refine Fn.ret1 HF rfl rfl ?_ | refine Fn.ret2 HF rfl rfl rfl ?_ | refine Fn.ret3 HF rfl rfl rfl rfl ?_ | refine Fn.ret0 HF rfl ?_ | refine Fn.fin0 HF rfl ?_ | refine Fn.retG (E := env) HF rfl H (by first | exact RVs.cellN rfl rfl rfl (by first | exact .head | exact .tail .head | exact .tail (.tail .head) | exact .tail (.tail (.tail .head)) | exact .tail (.tail (.tail (.tail .head))) | exact .tail (.tail (.tail (.tail (.tail .head)))) | exact .tail (.tail (.tail (.tail (.tail (.tail .head)))))) (by first | assumption | exact Cs.take rfl) RVs.nil | exact RVs.cellN rfl rfl rfl (by first | exact .head | exact .tail .head | exact .tail (.tail .head) | exact .tail (.tail (.tail .head)) | exact .tail (.tail (.tail (.tail .head))) | exact .tail (.tail (.tail (.tail (.tail .head)))) | exact .tail (.tail (.tail (.tail (.tail (.tail .head)))))) (by first | assumption | exact Cs.take rfl) (RVs.tmp rfl RVs.nil) | exact RVs.cellN rfl rfl rfl (by first | exact .head | exact .tail .head | exact .tail (.tail .head) | exact .tail (.tail (.tail .head)) | exact .tail (.tail (.tail (.tail .head))) | exact .tail (.tail (.tail (.tail (.tail .head)))) | exact .tail (.tail (.tail (.tail (.tail (.tail .head)))))) (by first | assumption | exact Cs.take rfl) (RVs.tmp rfl (RVs.tmp rfl RVs.nil))) rfl ?_)
      obtain ⟨yb1, hyz, ly⟩ := (oY.ext H.fr).lst (by omega)
      have hT := hF.then H.fr
      refine ⟨⟨g.n, cb, tb1, yb1, xb1, some ab1, g.up, rv1, rows1, g.way, g.bv, g.bx, g.box, g.air⟩, rfl, ⟨⟨_, _, _, _, H.pick (b := cb) (by first | exact .head | exact .tail .head | exact .tail (.tail .head) | exact .tail (.tail (.tail .head)) | exact .tail (.tail (.tail (.tail .head))) | exact .tail (.tail (.tail (.tail (.tail .head)))) | exact .tail (.tail (.tail (.tail (.tail (.tail .head)))))), lT.ext H.fr, ly, lX.ext H.fr, lA.ext H.fr⟩, fun i hi => (hrows i hi).2.ext H.fr, fun i hi => (h.box i hi).ext hT, fun i j hi hj => (h.sent i j hi hj).ext hT, fun p hp => (h.airb p hp).ext hT, fun i hi p hp => (h.boxb i hi p hp).ext hT, fun i j hi hj p hp => (h.sentb i j hi hj p hp).ext hT, hn64, hdist⟩, hT, rfl, ?_, fun b hb => hb⟩
      rintro b (e | e | e | e | e | ⟨i, hi, e | e⟩ | ⟨i, j, hi, hj, e⟩)
      · rw [e]; exact .inl hzc
      · rw [e]; exact .inl hzt
      · rw [e]; exact .inl hyz
      · rw [e]; exact .inl hzx
      · cases e; exact .inl hza
      · rw [e]; exact .inl (hrows i hi).1
      · obtain ⟨cs, hcs⟩ := h.tyB hi e
        exact .inr ⟨.inr (.inr (.inr (.inr (.inr (.inl ⟨i, hi, .inr e⟩))))), cs, 52, .inl rfl, hcs⟩
      · obtain ⟨cs, hcs⟩ := h.tyS hi hj e
        exact .inr ⟨.inr (.inr (.inr (.inr (.inr (.inr ⟨i, j, hi, hj, e⟩))))), cs, 28, .inr rfl, hcs⟩
end Go.Proofs.Ytpmihcefjdeonaa

namespace Go.Proofs.Ytpmihcefjdeonaa
open Go

/-- An older pair: only what is on the way is still asked. -/
structure OP where
  pb : Nat
  nb : Nat
  rb : Nat
  fb : Option Nat
  ab : Option Nat
  ps : List (Pk × Value)
  qs : List (Pk × Value)
def OB (o : OP) (b : Nat) : Prop := b = o.pb ∨ b = o.nb ∨ o.fb = some b ∨ (∃ p ∈ o.ps, blkV p.2 = some b) ∨ b = o.rb ∨ o.ab = some b ∨ ∃ p ∈ o.qs, blkV p.2 = some b
structure Older (w : World) (g : PG) (h : RG) (o : OP) : Prop where
  pr : w.heap[o.pb]? = some (row [.pointer (some ⟨o.nb, 0, none⟩), .pointer (some ⟨o.rb, 0, none⟩)] 34)
  fl : FlyAt w o.nb o.fb o.ps
  ar : AirAt w o.rb o.ab o.qs
  eq : o.ps.map (·.1) = o.qs.map (·.1)
  len : o.ps.length ≤ 4096
  lens : ∀ p ∈ o.ps, p.1.b.length ≤ 65536
  ap : ∀ b, OB o b → ¬ PF g b ∧ ¬ RS h b
theorem FlyAt.keep {w w' : World} {nb : Nat} {fb : Option Nat} {ps : List (Pk × Value)} {S : List Nat} (h : FlyAt w nb fb ps) (hf : Fr w w' S) (h1 : nb ∉ S) (h2 : ∀ b, fb = some b → b ∉ S) (h3 : ∀ p ∈ ps, ∀ b, blkV p.2 = some b → b ∉ S) : FlyAt w' nb fb ps := by
  obtain ⟨uv, mv, fv, xv, a1, a2⟩ := h.net
  exact ⟨⟨uv, mv, fv, xv, hf.get a1 h1, a2.keep hf h2⟩, fun p hp => (h.by_ p hp).keep hf (h3 p hp)⟩
theorem AirAt.keep {w w' : World} {nb : Nat} {fb : Option Nat} {ps : List (Pk × Value)} {S : List Nat} (h : AirAt w nb fb ps) (hf : Fr w w' S) (h1 : nb ∉ S) (h2 : ∀ b, fb = some b → b ∉ S) (h3 : ∀ p ∈ ps, ∀ b, blkV p.2 = some b → b ∉ S) : AirAt w' nb fb ps := by
  obtain ⟨uv, mv, fv, xv, a1, a2⟩ := h.net
  exact ⟨⟨uv, mv, fv, xv, hf.get a1 h1, a2.keep hf h2⟩, fun p hp => (h.by_ p hp).keep hf (h3 p hp)⟩
/-- The kinds of its blocks. -/
theorem Older.ty {w : World} {g : PG} {h : RG} {o : OP} (O : Older w g h o) {b : Nat} (hb : OB o b) : ∃ cs T, w.heap[b]? = some (row cs T) ∧ T ≠ 52 ∧ T ≠ 28 ∧ T ≠ 24 := by
  rcases hb with rfl | rfl | hb | ⟨p, hp, hb⟩ | rfl | hb | ⟨p, hp, hb⟩
  · exact ⟨_, 34, O.pr, by decide, by decide, by decide⟩
  · obtain ⟨uv, mv, fv, xv, a1, a2⟩ := O.fl.net
    exact ⟨_, 84, a1, by decide, by decide, by decide⟩
  · obtain ⟨uv, mv, fv, xv, a1, a2⟩ := O.fl.net
    rw [hb] at a2
    obtain ⟨cs, h1⟩ := a2.ty
    exact ⟨cs, 81, h1, by decide, by decide, by decide⟩
  · obtain ⟨cs, h1⟩ := (O.fl.by_ p hp).ty hb
    exact ⟨cs, 5, h1, by decide, by decide, by decide⟩
  · obtain ⟨uv, mv, fv, xv, a1, a2⟩ := O.ar.net
    exact ⟨_, 69, a1, by decide, by decide, by decide⟩
  · obtain ⟨uv, mv, fv, xv, a1, a2⟩ := O.ar.net
    rw [hb] at a2
    obtain ⟨cs, h1⟩ := a2.ty
    exact ⟨cs, 81, h1, by decide, by decide, by decide⟩
  · obtain ⟨cs, h1⟩ := (O.ar.by_ p hp).ty hb
    exact ⟨cs, 5, h1, by decide, by decide, by decide⟩
theorem Older.keep {w w' : World} {g g' : PG} {h h' : RG} {o : OP} {S : List Nat} (O : Older w g h o) (hf : Fr w w' S) (hS : ∀ b ∈ S, ¬ OB o b) (hap : ∀ b, OB o b → ¬ PF g' b ∧ ¬ RS h' b) : Older w' g' h' o := by
  have hn : ∀ b, OB o b → b ∉ S := fun b hb hm => hS b hm hb
  exact ⟨hf.get O.pr (hn _ (.inl rfl)), O.fl.keep hf (hn _ (.inr (.inl rfl))) (fun b hb => hn b (.inr (.inr (.inl hb)))) (fun p hp b hb => hn b (.inr (.inr (.inr (.inl ⟨p, hp, hb⟩))))),
    O.ar.keep hf (hn _ (.inr (.inr (.inr (.inr (.inl rfl)))))) (fun b hb => hn b (.inr (.inr (.inr (.inr (.inr (.inl hb))))))) (fun p hp b hb => hn b (.inr (.inr (.inr (.inr (.inr (.inr ⟨p, hp, hb⟩))))))), O.eq, O.len, O.lens, hap⟩
theorem Older.ext {w w' : World} {g : PG} {h : RG} {o : OP} (O : Older w g h o) (hf : Fr w w' []) : Older w' g h o := O.keep hf (by simp) O.ap
theorem Older.step {w w' : World} {g g' : PG} {h h' : RG} {o : OP} (O : Older w g h o) (B : Both w g h w' g' h') : Older w' g' h' o := by
  obtain ⟨S, hf, hS⟩ := B.fr
  refine O.keep hf (fun b hb ho => ?_) (fun b ho => ?_)
  · rcases hS b hb with e | e
    · exact (O.ap b ho).1 e
    · exact (O.ap b ho).2 e
  · obtain ⟨cs, T, h1, _⟩ := O.ty ho
    have hl := lt_of_at h1
    refine ⟨fun e => ?_, fun e => ?_⟩
    · rcases B.ownP b e with e | e
      · exact (O.ap b ho).1 e
      · omega
    · rcases B.ownS b e with e | e
      · exact (O.ap b ho).2 e
      · omega
/-- A clone and a copy come up. -/
theorem Older.turn {w w1 w' : World} {g g' : PG} {h h' : RG} {o : OP} (O : Older w g h o) (hf : Fr w w1 []) (hf' : Fr w1 w' []) (hp : ∀ b, PF g' b → PM g b ∨ w.heap.size ≤ b) (hr : ∀ b, RS h' b → w1.heap.size ≤ b ∨ (RS h b ∧ ∃ cs T, (T = 52 ∨ T = 28) ∧ w1.heap[b]? = some (row cs T))) : Older w' g' h' o := by
  refine O.keep (hf.then hf') (by simp) (fun b ho => ?_)
  obtain ⟨cs, T, h1, _⟩ := O.ty ho
  have hl := lt_of_at h1
  have := hf.size
  refine ⟨fun e => ?_, fun e => ?_⟩
  · rcases hp b e with e | e
    · exact (O.ap b ho).1 (.inr e)
    · omega
  · rcases hr b e with e | ⟨e, _⟩
    · omega
    · exact (O.ap b ho).2 e
theorem Duo.older {z w w1 w' : World} {pb k : Nat} {g g' : PG} {h h' : RG} {s : Ns} (D : Duo z w pb g h s) (hok : s.Ok k) (hf : Fr w w1 []) (hf' : Fr w1 w' []) (hp : ∀ b, PF g' b → PM g b ∨ w.heap.size ≤ b) (hr : ∀ b, RS h' b → w1.heap.size ≤ b ∨ (RS h b ∧ ∃ cs T, (T = 52 ∨ T = 28) ∧ w1.heap[b]? = some (row cs T))) :
    Older w' g' h' ⟨pb, g.nb, h.rb, g.fb, h.ab, g.fly, h.air⟩ := by
  have hT := hf.then hf'
  obtain ⟨cu, cx, fv, a1, a2, a3, a4, a5, a6⟩ := D.ap.p.net
  obtain ⟨tv, yv, xv, av, b1, b2, b3, b4, b5⟩ := D.ap.d.net
  have e1 : g.fly.map (·.1) = s.fly := by rw [← D.ag]; rfl
  have e2 : h.air.map (·.1) = s.fly := by rw [← D.ah]; rfl
  have hlen := hok.fly.1
  rw [← e1, List.length_map] at hlen
  have hfl : FlyAt w g.nb g.fb g.fly := D.ap.p.flyAt
  have har : AirAt w h.rb h.ab h.air := ⟨⟨tv, yv, xv, av, b1, b5⟩, D.ap.d.airb⟩
  have O : Older w g h ⟨pb, g.nb, h.rb, g.fb, h.ab, g.fly, h.air⟩ → Older w' g' h' ⟨pb, g.nb, h.rb, g.fb, h.ab, g.fly, h.air⟩ := fun O => O.turn hf hf' hp hr
  have hsz := hf.size
  refine ⟨hT.get D.pr (by simp), hfl.keep hT (by simp) (by simp) (by simp), har.keep hT (by simp) (by simp) (by simp), e1.trans e2.symm, hlen, fun p hp => (hok.fly.2 p.1 (by rw [← e1]; exact List.mem_map.2 ⟨p, hp, rfl⟩)).2.2.1, fun b ho => ?_⟩
  have key : (∃ cs T, w.heap[b]? = some (row cs T) ∧ T ≠ 52 ∧ T ≠ 28) ∧ ¬ PM g b := by
    rcases ho with rfl | rfl | hb | ⟨p, hp, hb⟩ | rfl | hb | ⟨p, hp, hb⟩
    · exact ⟨⟨_, 34, D.pr, by decide, by decide⟩, fun e => D.pf.1 (.inr e)⟩
    · exact ⟨⟨_, 84, a1, by decide, by decide⟩, fun e => by obtain ⟨cs, hc⟩ := D.ap.p.ms e; exact not5 a1 (by decide) _ hc⟩
    · have hb : g.fb = some b := hb
      rw [hb] at a6
      obtain ⟨cs, h1⟩ := a6.ty
      exact ⟨⟨cs, 81, h1, by decide, by decide⟩, fun e => by obtain ⟨cs, hc⟩ := D.ap.p.ms e; exact not5 h1 (by decide) _ hc⟩
    · obtain ⟨cs, h1⟩ := (hfl.by_ p hp).ty hb
      exact ⟨⟨cs, 5, h1, by decide, by decide⟩, fun e => D.ap.p.di b e (.inl ⟨p, hp, hb⟩)⟩
    · exact ⟨⟨_, 69, b1, by decide, by decide⟩, fun e => (D.ap.ds _ (.inl (.inl rfl))).1 (.inr e)⟩
    · have hb : h.ab = some b := hb
      rw [hb] at b5
      obtain ⟨cs, h1⟩ := b5.ty
      exact ⟨⟨cs, 81, h1, by decide, by decide⟩, fun e => (D.ap.ds b (.inl (.inr (.inr (.inr (.inr (.inl hb))))))).1 (.inr e)⟩
    · obtain ⟨cs, h1⟩ := (har.by_ p hp).ty hb
      exact ⟨⟨cs, 5, h1, by decide, by decide⟩, fun e => (D.ap.ds b (.inr (.inl ⟨p, hp, hb⟩))).1 (.inr e)⟩
  obtain ⟨⟨cs, T, h1, n1, n2⟩, hm⟩ := key
  have hl := lt_of_at h1
  refine ⟨fun e => ?_, fun e => ?_⟩
  · rcases hp b e with e | e
    · exact hm e
    · omega
  · rcases hr b e with e | ⟨_, cs', T', hT', hc⟩
    · omega
    · have hc' := hf.get h1 (by simp)
      rw [hc] at hc'
      simp at hc'
      rcases hT' with rfl | rfl
      · exact n1 hc'.2.symm
      · exact n2 hc'.2.symm
theorem Duo.turn {z w w1 w2 w' : World} {pb pb' : Nat} {g g' : PG} {h h' : RG} {s : Ns} (D : Duo z w pb g h s) (hf : Fr w w1 []) (hf2 : Fr w1 w2 []) (hf' : Fr w2 w' []) (hg : PN w1 g') (hh : RN w2 h') (hps : ∀ b, PS g' b → w.heap.size ≤ b) (hpm : ∀ b, PM g' b → PM g b) (hpi : ∀ b, PI g' b → PI g b) (hr : ∀ b, RS h' b → w1.heap.size ≤ b ∨ (RS h b ∧ ∃ cs T, (T = 52 ∨ T = 28) ∧ w1.heap[b]? = some (row cs T))) (hrb : ∀ b, RB h' b → RB h b) (ha : g'.abs = s) (hb : h'.abs = s)
    (hpr : w'.heap[pb']? = some (row [.pointer (some ⟨g'.nb, 0, none⟩), .pointer (some ⟨h'.rb, 0, none⟩)] 34)) (hpz : w2.heap.size ≤ pb') : Duo z w' pb' g' h' s := by
  have s0 := D.fr.size
  have s1 := hf.size
  have s2 := hf2.size
  have s3 := hf'.size
  refine ⟨⟨(hg.ext hf2).ext hf', hh.ext hf', fun c hc => ?_⟩, ((D.fr.then hf).then hf2).then hf', hpr, by omega, ⟨fun e => by have := hg.lt e; omega, fun e => by have := hg.ltI e; omega, fun e => by have := hh.lt e; omega⟩, fun c hc => ?_, fun c hc => D.nI c (hpi c hc), fun c hc => ?_, ha, hb⟩
  · rcases hc with hc | hc
    · rcases hr c hc with e | ⟨e, _⟩
      · exact ⟨fun hp => by have := hg.lt hp; omega, fun hp => by have := hg.ltI hp; omega⟩
      · have hd := D.ap.ds c (.inl e)
        have hl := D.ap.d.lt (.inl e)
        refine ⟨fun hp => ?_, fun hp => hd.2 (hpi c hp)⟩
        rcases hp with hp | hp
        · have := hps c hp; omega
        · exact hd.1 (.inr (hpm c hp))
    · have hd := D.ap.ds c (.inr (hrb c hc))
      have hl := D.ap.d.lt (.inr (hrb c hc))
      refine ⟨fun hp => ?_, fun hp => hd.2 (hpi c hp)⟩
      rcases hp with hp | hp
      · have := hps c hp; omega
      · exact hd.1 (.inr (hpm c hp))
  · rcases hc with hc | hc
    · have := hps c hc; omega
    · exact D.nP c (.inr (hpm c hc))
  · rcases hc with hc | hc
    · rcases hr c hc with e | ⟨e, _⟩
      · omega
      · exact D.nR c (.inl e)
    · exact D.nR c (.inr (hrb c hc))
theorem Duo.keep {z w w' : World} {pb : Nat} {g : PG} {h : RG} {s : Ns} {S : List Nat} (D : Duo z w pb g h s) (hf : Fr w w' S) (hS : ∀ b ∈ S, z.heap.size ≤ b ∧ b ≠ pb ∧ Free g h b) : Duo z w' pb g h s :=
  ⟨⟨D.ap.p.keep hf (fun b hb => ⟨(hS b hb).2.2.1, (hS b hb).2.2.2.1⟩), D.ap.d.keep hf (fun b hb => (hS b hb).2.2.2.2), D.ap.ds⟩, D.fr.trans hf (by simp) (fun b hb hl => by have := (hS b hb).1; omega), hf.get D.pr (fun hm => (hS pb hm).2.1 rfl), D.pz, D.pf, D.nP, D.nI, D.nR, D.ag, D.ah⟩
end Go.Proofs.Ytpmihcefjdeonaa

namespace Go.Proofs.Ytpmihcefjdeonaa
open Go
set_option maxRecDepth 20000
set_option maxHeartbeats 2000000
attribute [local irreducible] Run Ops Fn Draw Draw2 PureOp StepZ

theorem Own.keepTy {w w' : World} {z el sz n : Nat} {v : Value} {vs : List Value} {S : List Nat} (h : Own w z el sz v n vs) (hf : Fr w w' S) (hS : ∀ b ∈ S, ∀ cs, w.heap[b]? ≠ some (row cs el)) : Own w' z el sz v n vs := by
  rcases h with h | ⟨b, cap, cs, h1, h2, h3, h4, h5, h6, h7⟩
  · exact .inl h
  · exact .inr ⟨b, cap, cs, h1, h2, h3, h4, hf.get h5 (fun hb => hS b hb cs h5), h6, h7⟩
theorem PN.no24 {w : World} {g : PG} (h : PN w g) {b : Nat} (hb : PF g b) : ∀ cs, w.heap[b]? ≠ some (row cs 24) := by
  intro cs hc
  rcases hb with hb | hb
  · rcases h.ty hb with ⟨es, k, h1⟩ | ⟨cs', T, hT, h1⟩
    · rw [hc] at h1; cases h1
    · rw [hc] at h1
      simp at h1
      rw [← h1.2] at hT
      simp at hT
  · obtain ⟨cs', h1⟩ := h.ms hb
    rw [hc] at h1
    simp at h1
theorem RN.no24 {w : World} {g : RG} (h : RN w g) {b : Nat} (hb : RS g b) : ∀ cs, w.heap[b]? ≠ some (row cs 24) := by
  intro cs' h'
  have key : ∀ T, T ≠ 24 → (∃ cs, w.heap[b]? = some (row cs T)) → False := fun T hT hc => by
    obtain ⟨cs, hc⟩ := hc
    rw [h'] at hc
    simp at hc
    exact hT hc.2.symm
  rcases hb with rfl | rfl | rfl | rfl | e | ⟨i, hi, rfl | e⟩ | ⟨i, j, hi, hj, e⟩
  · exact key 69 (by decide) h.tyR
  · exact key 4 (by decide) h.tyT
  · exact key 96 (by decide) h.tyY
  · exact key 72 (by decide) h.tyX
  · exact key 81 (by decide) (h.tyA e)
  · exact key 99 (by decide) (h.tyRow hi)
  · exact key 52 (by decide) (h.tyB hi e)
  · exact key 28 (by decide) (h.tyS hi hj e)
theorem Duo.free24 {z w : World} {pb b : Nat} {g : PG} {h : RG} {s : Ns} {cs : List Value} (D : Duo z w pb g h s) (hb : w.heap[b]? = some (row cs 24)) : b ≠ pb ∧ Free g h b := by
  refine ⟨ne_of_ty hb D.pr (by decide), fun e => D.ap.p.no24 e _ hb, fun e => ?_, fun e => ?_⟩
  · obtain ⟨cs', h1⟩ := D.ap.p.im e
    rw [hb] at h1
    simp at h1
  · rcases e with e | e
    · exact D.ap.d.no24 e _ hb
    · obtain ⟨cs', h1⟩ := D.ap.d.tyRB e
      rw [hb] at h1
      simp at h1
theorem Older.no24 {w : World} {b : Nat} {g : PG} {h : RG} {o : OP} {cs : List Value} (O : Older w g h o) (hb : w.heap[b]? = some (row cs 24)) : ¬ OB o b := fun e => by
  obtain ⟨cs', T, h1, _, _, h2⟩ := O.ty e
  rw [hb] at h1
  simp at h1
  exact h2 h1.2.symm
def ptrsOf (l : List OP) (pb : Nat) : List Value := l.map (fun o => .pointer (some ⟨o.pb, 0, none⟩)) ++ [.pointer (some ⟨pb, 0, none⟩)]
theorem netAll_no (z : World) (n : Int) (av : Value) (h : ¬ (1 ≤ n ∧ n ≤ 64)) : Fn env.P 5 [.int .i64 n, av] z fun v w' => v = .bool true ∧ Fr z w' [] := by
  have H := Holds.start z []
  have HF := Try.func5; refine Fn.enter Try.func5 Try.ntmps5 rfl rfl rfl ?_
  refine Run.seq ?_
  (refine Run.region ?_; intro K hK)
  refine Ops.pure H (X.assign rfl) rfl rfl rfl ?_
  (refine Ops.nil (hK _ _ ?_); clear hK K)
  refine Run.seq ?_
  (refine Run.region ?_; intro K hK)
  refine Ops.pure H (X.move rfl) rfl rfl rfl ?_
  refine Ops.eff rfl (Y.call rfl rfl (by first | assumption | decide +kernel) rfl (begins_no _ n h) rfl ?_)
  rintro v w2 ⟨rfl, rfl⟩
  refine Ops.pure H (X.move rfl) rfl rfl rfl ?_
  refine Ops.pure H (X.extract rfl rfl) rfl rfl rfl ?_
  refine Ops.pure H (X.extract rfl rfl) rfl rfl rfl ?_
  refine Ops.pure H (X.assign rfl) rfl rfl rfl ?_
  refine Ops.pure H (X.assign rfl) rfl rfl rfl ?_
  (refine Ops.nil (hK _ _ ?_); clear hK K)
  refine Run.seq ?_
  refine Run.seq ?_
  (refine Run.region ?_; intro K hK)
  refine Ops.pure H (X.move rfl) rfl rfl rfl ?_
  refine Ops.pure H (X.ptrNil rfl rfl rfl rfl rfl) rfl rfl rfl ?_
  (refine Ops.nil (hK _ _ ?_); clear hK K)
  refine Run.cond_true rfl ?_
  refine Run.seq ?_
  (refine Run.region ?_; intro K hK)
  refine Ops.pure H (X.move rfl) rfl rfl rfl ?_
  refine Ops.pure H (X.assign rfl) rfl rfl rfl ?_
  (refine Ops.nil (hK _ _ ?_); clear hK K)
  (first | refine Fn.ret1 HF rfl rfl ?_ | refine Fn.ret2 HF rfl rfl rfl ?_ | refine Fn.ret3 HF rfl rfl rfl rfl ?_ | refine Fn.ret0 HF rfl ?_ | refine Fn.fin0 HF rfl ?_ | refine Fn.retG (E := env) HF rfl H (by first | exact RVs.cellN rfl rfl rfl (by first | exact .head | exact .tail .head | exact .tail (.tail .head) | exact .tail (.tail (.tail .head)) | exact .tail (.tail (.tail (.tail .head))) | exact .tail (.tail (.tail (.tail (.tail .head)))) | exact .tail (.tail (.tail (.tail (.tail (.tail .head)))))) (by first | assumption | exact Cs.take rfl) RVs.nil | exact RVs.cellN rfl rfl rfl (by first | exact .head | exact .tail .head | exact .tail (.tail .head) | exact .tail (.tail (.tail .head)) | exact .tail (.tail (.tail (.tail .head))) | exact .tail (.tail (.tail (.tail (.tail .head)))) | exact .tail (.tail (.tail (.tail (.tail (.tail .head)))))) (by first | assumption | exact Cs.take rfl) (RVs.tmp rfl RVs.nil) | exact RVs.cellN rfl rfl rfl (by first | exact .head | exact .tail .head | exact .tail (.tail .head) | exact .tail (.tail (.tail .head)) | exact .tail (.tail (.tail (.tail .head))) | exact .tail (.tail (.tail (.tail (.tail .head)))) | exact .tail (.tail (.tail (.tail (.tail (.tail .head)))))) (by first | assumption | exact Cs.take rfl) (RVs.tmp rfl (RVs.tmp rfl RVs.nil))) rfl ?_)
  exact ⟨rfl, H.fr⟩
theorem netAll_yes (z : World) (n : Nat) (aa : Option Addr) (an acap ab aoff : Nat) (acs : List Value) (aT : TypeId) (afz : Nat × Nat) (A : Nat → AL) (hA : AActs z aa an ab aoff acs aT afz A) (h1 : 1 ≤ n) (h2 : n ≤ 64) :
    Fn env.P 5 [.int .i64 (n : Nat), .slice aa an acap] z fun v w' => v = .bool true ∧ Fr z w' [] := by
  have H := Holds.start z []
  have HF := Try.func5; refine Fn.enter Try.func5 Try.ntmps5 rfl rfl rfl ?_
  refine Run.seq ?_
  (refine Run.region ?_; intro K hK)
  refine Ops.pure H (X.assign rfl) rfl rfl rfl ?_
  (refine Ops.nil (hK _ _ ?_); clear hK K)
  refine Run.seq ?_
  (refine Run.region ?_; intro K hK)
  refine Ops.pure H (X.move rfl) rfl rfl rfl ?_
  refine Ops.eff rfl (Y.call rfl rfl (by first | assumption | decide +kernel) rfl (begins_yes _ n h1 h2) rfl ?_)
  rintro v w2 ⟨pb, g0, h0, rfl, hpr, hap, hg0, hh0, hf2, hpz, hfree, hnP, hnI, hnR⟩
  have hsz1 := H.fr.size
  have D0 : Duo z w2 pb g0 h0 (ns0 n) := ⟨hap, hf2, hpr, by omega, hfree, fun c hc => Nat.le_trans hsz1 (hnP c hc), fun c hc => absurd hc (hnI c), fun c hc => Nat.le_trans hsz1 (hnR c hc), hg0, hh0⟩
  clear H
  have H := Holds.start w2 []
  refine Ops.pure H (X.move rfl) rfl rfl rfl ?_
  refine Ops.pure H (X.extract rfl rfl) rfl rfl rfl ?_
  refine Ops.pure H (X.extract rfl rfl) rfl rfl rfl ?_
  refine Ops.pure H (X.assign rfl) rfl rfl rfl ?_
  refine Ops.pure H (X.assign rfl) rfl rfl rfl ?_
  (refine Ops.nil (hK _ _ ?_); clear hK K)
  refine Run.seq ?_
  refine Run.seq ?_
  (refine Run.region ?_; intro K hK)
  refine Ops.pure H (X.move rfl) rfl rfl rfl ?_
  refine Ops.pure H (X.ptrNil rfl rfl rfl rfl rfl) rfl rfl rfl ?_
  (refine Ops.nil (hK _ _ ?_); clear hK K)
  refine Run.cond_false rfl ?_
  refine Run.skip ?_
  refine Run.seq ?_
  (refine Run.region ?_; intro K hK)
  refine Ops.pure H (X.move rfl) rfl rfl rfl ?_
  (refine Ops.eff rfl (Y.buildSliceO rfl rfl rfl rfl rfl rfl rfl rfl H ?_); intro b20 w H0 hb20; clear H; have H := H0; clear H0)
  refine Ops.pure H (X.assign rfl) rfl rfl rfl ?_
  (refine Ops.nil (hK _ _ ?_); clear hK K)
  refine Run.seq ?_
  refine Run.seq ?_
  (refine Run.region ?_; intro K hK)
  refine Ops.pure H (X.assign rfl) rfl rfl rfl ?_
  (refine Ops.nil (hK _ _ ?_); clear hK K)
  refine Run.block ?_
  have hz2 := hf2.size
  obtain ⟨s, hs⟩ : ∃ s : Nat → Ns, s = fun i => (ns0 n).run (fun j => (A j).c) i := ⟨_, rfl⟩
  have hs0 : s 0 = ns0 n := by rw [hs]; rfl
  have hss : ∀ i, s (i + 1) = (s i).act (A i).c := fun i => by rw [hs]; rfl
  have hsok : ∀ i, (s i).Ok i := fun i => by rw [hs]; exact run_ok (ns0_ok n) _ i
  clear hs
  have hao : Own w z.heap.size 24 1 (.slice (some ⟨b20, 0, none⟩) 1 1) (([] : List OP).length + 1) (ptrsOf [] pb) := .inr ⟨b20, 1, _, rfl, by simp, by omega, by omega, H.pick (b := b20) (by first | exact .head | exact .tail .head | exact .tail (.tail .head) | exact .tail (.tail (.tail .head)) | exact .tail (.tail (.tail (.tail .head))) | exact .tail (.tail (.tail (.tail (.tail .head)))) | exact .tail (.tail (.tail (.tail (.tail (.tail .head)))))), rfl, Cs.take rfl⟩
  have D1 := D0.ext H.fr
  refine Run.rounds (fun (x : Nat × Nat × Value) => [(0, .int .i64 (n : Nat)), (1, .slice aa an acap), (5, .pointer (some ⟨x.2.1, 0, none⟩)), (7, x.2.2), (8, .int .i64 (x.1 : Nat))])
    (fun x w' => x.1 ≤ an ∧ ∃ g h olds, Duo z w' x.2.1 g h (s x.1) ∧ (∀ o ∈ olds, Older w' g h o) ∧ Own w' z.heap.size 24 1 x.2.2 (olds.length + 1) (ptrsOf olds x.2.1) ∧ olds.length ≤ 20) (fun x => an - x.1) (0, pb, .slice (some ⟨b20, 0, none⟩) 1 1) (by repeat (first | exact trivial | refine ⟨rfl, ?_⟩)) ⟨by simp, g0, h0, [], by rw [hs0]; exact D1, by simp, hao, by simp⟩ ?_
  clear H D0 D1 hao hpr hap hg0 hh0 hf2 hpz hfree hnP hnI hnR hsz1 hz2 hb20
  rintro ⟨i, pb, av⟩ w3 ⟨hi, g, h, olds, D, hO, hao, hol⟩ IH
  dsimp only at hi D hao IH ⊢
  have hA1 := hA.1
  obtain ⟨va, vc, rfl⟩ := hao.slice
  by_cases hlt : i < an
  · obtain ⟨hcs, hxs, hxl, hxi⟩ := hA.2.2 i hlt
    obtain ⟨rfl, hab⟩ := hA.2.1 (by omega)
    have hsi := hss i
    generalize A i = ai at hcs hxs hxl hxi hsi
    obtain ⟨c, bv⟩ := ai
    dsimp only at hcs hxs hxl hxi hsi
    have hab3 := D.fr.get hab (by simp)
    have hlab := lt_of_at hab
    unfold acC at hcs
    have hkd : acs[aoff + i * 6 + 0]? = some (.int .i64 c.kind) := hcs.get 0 _ rfl
    have H := (Holds.start w3 []).add false hab3 (by simp) (by simp)
    refine Run.seq ?_
    refine Run.seq ?_
    (refine Run.region ?_; intro K hK)
    refine Ops.pure H (X.move rfl) rfl rfl rfl ?_
    refine Ops.pure H (X.move rfl) rfl rfl rfl ?_
    refine Ops.pure H (X.len_slice rfl rfl rfl) rfl rfl rfl ?_
    refine Ops.pure H (X.cmp rfl rfl rfl) rfl rfl rfl ?_
    (refine Ops.nil (hK _ _ ?_); clear hK K)
    refine Run.cond_dec rfl (fun h24 => ?x0) (fun h24 => ?y0)
    case' y0 => exfalso; omega
    case' x0 =>
      refine Run.skip ?_
    refine Run.seq ?_
    refine Run.block ?_
    refine Run.seq ?_
    refine Run.meet (fun (x : Nat × Value) => [(0, .int .i64 (n : Nat)), (1, .slice (some ⟨ab, aoff, none⟩) an acap), (5, .pointer (some ⟨x.1, 0, none⟩)), (7, x.2), (8, .int .i64 (i : Nat))])
      (fun x w' => ∃ g h olds, Duo z w' x.1 g h (s i) ∧ (∀ o ∈ olds, Older w' g h o) ∧ Own w' z.heap.size 24 1 x.2 (olds.length + 1) (ptrsOf olds x.1) ∧ olds.length ≤ 20) ?_ ?_
    rotate_left
    · intro kk go
      by_cases h9 : c.kind = 9
      · clear H
        have H := ((Holds.start w3 []).add false hab3 (by simp) (by simp)).add false D.pr (by simpa using (Nat.ne_of_lt (Nat.lt_of_lt_of_le hlab D.pz)).symm) (by simp)
        refine Run.seq ?_
        (refine Run.region ?_; intro K hK)
        refine Ops.pure H (X.move rfl) rfl rfl rfl ?_
        refine Ops.pure H (X.move rfl) rfl rfl rfl ?_
        refine Ops.pure H (X.indexAddr rfl rfl (by omega) rfl rfl rfl rfl) rfl rfl rfl ?_
        refine Ops.pure H (X.fieldAddr rfl rfl rfl rfl rfl rfl) rfl rfl rfl ?_
        refine Ops.pure H (X.load1 rfl rfl rfl rfl (.tail .head) (by assumption)) rfl rfl rfl ?_
        refine Ops.pure H (X.cmp rfl rfl rfl) rfl rfl rfl ?_
        (refine Ops.nil (hK _ _ ?_); clear hK K)
        refine Run.cond_dec rfl (fun h32 => ?x1) (fun h32 => ?y1)
        case' y1 => exfalso; omega
        case' x1 =>
          refine Run.seq ?_
          (refine Run.region ?_; intro K hK)
          refine Ops.pure H (X.move rfl) rfl rfl rfl ?_
          refine Ops.pure H (X.nilCheck rfl) rfl rfl rfl ?_
          refine Ops.pure H (X.fieldAddr rfl rfl rfl rfl rfl rfl) rfl rfl rfl ?_
          refine Ops.pure H (X.load1 rfl rfl rfl rfl Pick.head rfl) rfl rfl rfl ?_
        refine Ops.eff rfl (Y.call rfl rfl (by first | assumption | decide +kernel) rfl (clone_any _ g i rfl (D.ap.p.ext H.fr) (by rw [D.ag]; exact hsok i) (by omega)) rfl ?_)
        rintro v w4 ⟨g', rfl, hp', hf4, hps, hbox, hpi, hab'⟩
        have hF4 := H.fr.then hf4
        have hwz0 := H.fr
        have hng : g'.n = g.n := by have := congrArg Ns.n hab'; exact this
        replace H := H.ext hf4
        have hT4 := H.fr
        by_cases hbig : 20 < olds.length + 1
        · have hbg : (20 : Int) < ((olds.length + 1 : Nat) : Int) := by omega
          refine Ops.pure H (X.assign rfl) rfl rfl rfl ?_
          (refine Ops.nil (hK _ _ ?_); clear hK K)
          refine Run.seq ?_
          refine Run.seq ?_
          (refine Run.region ?_; intro K hK)
          refine Ops.pure H (X.move rfl) rfl rfl rfl ?_
          refine Ops.pure H (X.ptrNil rfl rfl rfl rfl rfl) rfl rfl rfl ?_
          refine Ops.pure H (X.move rfl) rfl rfl rfl ?_
          refine Ops.pure H (X.move rfl) rfl rfl rfl ?_
          refine Ops.pure H (X.len_slice rfl rfl rfl) rfl rfl rfl ?_
          refine Ops.pure H (X.cmp rfl rfl rfl) rfl rfl rfl ?_
          refine Ops.pure H (X.pick_f rfl rfl) rfl rfl rfl ?_
          (refine Ops.nil (hK _ _ ?_); clear hK K)
          refine Run.cond_dec rfl (fun h44 => ?x2) (fun h44 => ?y2)
          case' y2 => exfalso; omega
          case' x2 =>
            refine Run.seq ?_
            (refine Run.region ?_; intro K hK)
            refine Ops.pure H (X.move rfl) rfl rfl rfl ?_
            refine Ops.pure H (X.ptrNil rfl rfl rfl rfl rfl) rfl rfl rfl ?_
            refine Ops.pure H (X.assign rfl) rfl rfl rfl ?_
            (refine Ops.nil (hK _ _ ?_); clear hK K)
          (first | refine Fn.ret1 HF rfl rfl ?_ | refine Fn.ret2 HF rfl rfl rfl ?_ | refine Fn.ret3 HF rfl rfl rfl rfl ?_ | refine Fn.ret0 HF rfl ?_ | refine Fn.fin0 HF rfl ?_ | refine Fn.retG (E := env) HF rfl H (by first | exact RVs.cellN rfl rfl rfl (by first | exact .head | exact .tail .head | exact .tail (.tail .head) | exact .tail (.tail (.tail .head)) | exact .tail (.tail (.tail (.tail .head))) | exact .tail (.tail (.tail (.tail (.tail .head)))) | exact .tail (.tail (.tail (.tail (.tail (.tail .head)))))) (by first | assumption | exact Cs.take rfl) RVs.nil | exact RVs.cellN rfl rfl rfl (by first | exact .head | exact .tail .head | exact .tail (.tail .head) | exact .tail (.tail (.tail .head)) | exact .tail (.tail (.tail (.tail .head))) | exact .tail (.tail (.tail (.tail (.tail .head)))) | exact .tail (.tail (.tail (.tail (.tail (.tail .head)))))) (by first | assumption | exact Cs.take rfl) (RVs.tmp rfl RVs.nil) | exact RVs.cellN rfl rfl rfl (by first | exact .head | exact .tail .head | exact .tail (.tail .head) | exact .tail (.tail (.tail .head)) | exact .tail (.tail (.tail (.tail .head))) | exact .tail (.tail (.tail (.tail (.tail .head)))) | exact .tail (.tail (.tail (.tail (.tail (.tail .head)))))) (by first | assumption | exact Cs.take rfl) (RVs.tmp rfl (RVs.tmp rfl RVs.nil))) rfl ?_)
          exact ⟨rfl, D.fr.then H.fr⟩
        · have hbg : ¬ (20 : Int) < ((olds.length + 1 : Nat) : Int) := by omega
          refine Ops.pure H (X.assign rfl) rfl rfl rfl ?_
          (refine Ops.nil (hK _ _ ?_); clear hK K)
          refine Run.seq ?_
          refine Run.seq ?_
          (refine Run.region ?_; intro K hK)
          refine Ops.pure H (X.move rfl) rfl rfl rfl ?_
          refine Ops.pure H (X.ptrNil rfl rfl rfl rfl rfl) rfl rfl rfl ?_
          refine Ops.pure H (X.move rfl) rfl rfl rfl ?_
          refine Ops.pure H (X.move rfl) rfl rfl rfl ?_
          refine Ops.pure H (X.len_slice rfl rfl rfl) rfl rfl rfl ?_
          refine Ops.pure H (X.cmp rfl rfl rfl) rfl rfl rfl ?_
          refine Ops.pure H (X.pick_f rfl rfl) rfl rfl rfl ?_
          (refine Ops.nil (hK _ _ ?_); clear hK K)
          refine Run.cond_dec rfl (fun h44 => ?x3) (fun h44 => ?y3)
          case' y3 =>
            refine Run.skip ?_
            refine Run.seq ?_
            (refine Run.region ?_; intro K hK)
            refine Ops.pure H (X.move rfl) rfl rfl rfl ?_
            refine Ops.pure H (X.move rfl) rfl rfl rfl ?_
            refine Ops.pure H (X.nilCheck rfl) rfl rfl rfl ?_
            refine Ops.pure H (X.fieldAddr rfl rfl rfl rfl rfl rfl) rfl rfl rfl ?_
            refine Ops.pure H (X.load1 rfl rfl rfl rfl Pick.head rfl) rfl rfl rfl ?_
          case' x3 => exfalso; omega
          refine Ops.eff rfl (Y.call rfl rfl (by first | assumption | decide +kernel) rfl (rcopy_any _ h i rfl ((D.ap.d.ext hT4).ext (Fr.refl _ _)) (by rw [D.ah]; exact hsok i)) rfl ?_)
          rintro v w5 ⟨h', rfl, hh', hf5, hab5, hrs, hrb⟩
          replace H := H.ext hf5
          have hT5 := H.fr
          clear H
          have H := Holds.start w5 []
          refine Ops.pure H (X.buildO rfl rfl rfl rfl rfl rfl) rfl rfl rfl ?_
          (refine Ops.eff rfl (Y.box rfl rfl rfl H ?_); intro b54 w H0 hb54; clear H; have H := H0; clear H0)
          refine Ops.pure H (X.assign rfl) rfl rfl rfl ?_
          (refine Ops.nil (hK _ _ ?_); clear hK K)
          (refine Run.region ?_; intro K hK)
          refine Ops.pure H (X.move rfl) rfl rfl rfl ?_
          refine Ops.pure H (X.move rfl) rfl rfl rfl ?_
          (refine Ops.eff rfl (Y.buildSliceO rfl rfl rfl rfl rfl rfl rfl rfl H ?_); intro b57 w H0 hb57; clear H; have H := H0; clear H0)
          have hpz' := hb54
          have k54 := H.pick (b := b54) (by first | exact .head | exact .tail .head | exact .tail (.tail .head) | exact .tail (.tail (.tail .head)) | exact .tail (.tail (.tail (.tail .head))) | exact .tail (.tail (.tail (.tail (.tail .head)))) | exact .tail (.tail (.tail (.tail (.tail (.tail .head))))))
          have hF6 := H.fr
          obtain ⟨ob, ocap, ocs, e, o1, o2, o3, o4, o5, o6⟩ := hao.get (by omega)
          cases e
          have hpg : ∀ b, PF g' b → PM g b ∨ w3.heap.size ≤ b := fun b hb => by
            rcases hb with hb | ⟨j, p, hj, hp, e⟩
            · have := hps b hb; have := hwz0.size; exact .inr (by omega)
            · rw [hbox] at hp
              exact .inl ⟨j, p, by rw [← hng]; exact hj, hp, e⟩
          have hF36 := (hT4.then hf5).then hF6
          have o47 := hF36.get o4 (by simp)
          have hD5 := D.turn hF4 hf5 hF6 hp' hh' (fun b hb => by have := hps b hb; have := hwz0.size; omega) (fun b ⟨j, p, hj, hp, e⟩ => ⟨j, p, by rw [← hng]; exact hj, by rw [← hbox]; exact hp, e⟩) hpi hrs hrb (hab'.trans D.ag) (hab5.trans D.ah) k54 (by omega)
          have hO5 : ∀ o ∈ (⟨pb, g.nb, h.rb, g.fb, h.ab, g.fly, h.air⟩ : OP) :: olds, Older w g' h' o := by
            intro o ho
            rcases List.mem_cons.1 ho with rfl | ho
            · exact D.older (hsok i) hF4 (hf5.then hF6) hpg hrs
            · exact (hO o ho).turn hF4 (hf5.then hF6) hpg hrs
          refine Ops.eff rfl (Y.appendB (len := olds.length + 1) (news := [.pointer (some ⟨b54, 0, none⟩)]) 1 o1 o2 o47 o5 o6 rfl rfl rfl rfl rfl rfl rfl (Src.row (m := 1) H .head (Cs.take rfl)) rfl (fun v hv => by simp at hv; subst hv; rfl) (by dsimp only; omega) (by omega) rfl ?_)
          intro b7 cap7 cs7 w7 hf7 hb7 c1 c2 c3 c4 c5
          have hbz : z.heap.size ≤ b7 := by
            rcases hb7 with e | e
            · omega
            · have := hD5.fr.size; omega
          have hD7 := hD5.keep hf7 (fun b hb => by
            simp at hb
            subst hb
            exact ⟨o3, hD5.free24 o47⟩)
          have hO7 : ∀ o ∈ (⟨pb, g.nb, h.rb, g.fb, h.ab, g.fly, h.air⟩ : OP) :: olds, Older w7 g' h' o := fun o ho => (hO5 o ho).keep hf7 (fun b hb => by
            simp at hb
            subst hb
            exact (hO5 o ho).no24 o47) (hO5 o ho).ap
          have hA7 : Own w7 z.heap.size 24 1 (.slice (some ⟨b7, 0, none⟩) (olds.length + 1 + 1) cap7) ((olds ++ [(⟨pb, g.nb, h.rb, g.fb, h.ab, g.fly, h.air⟩ : OP)]).length + 1) (ptrsOf (olds ++ [⟨pb, g.nb, h.rb, g.fb, h.ab, g.fly, h.air⟩]) b54) := by
            refine .inr ⟨b7, cap7, cs7, by simp, by simp; omega, c2, hbz, c3, by omega, c5.cast rfl (by simp) (by simp [ptrsOf])⟩
          clear H
          have H := Holds.start w7 []
          refine Ops.pure H (X.assign rfl) rfl rfl rfl ?_
          (refine Ops.nil (hK _ _ ?_); clear hK K)
          exact go (b54, _) _ _ ⟨g', h', olds ++ [(⟨pb, g.nb, h.rb, g.fb, h.ab, g.fly, h.air⟩ : OP)], hD7.ext H.fr, fun o ho => (hO7 o (by simp at ho ⊢; exact ho.symm)).ext H.fr, hA7.ext H.fr, by simp; omega⟩ (by repeat (first | exact trivial | refine ⟨rfl, ?_⟩))
      · refine Run.seq ?_
        (refine Run.region ?_; intro K hK)
        refine Ops.pure H (X.move rfl) rfl rfl rfl ?_
        refine Ops.pure H (X.move rfl) rfl rfl rfl ?_
        refine Ops.pure H (X.indexAddr rfl rfl (by omega) rfl rfl rfl rfl) rfl rfl rfl ?_
        refine Ops.pure H (X.fieldAddr rfl rfl rfl rfl rfl rfl) rfl rfl rfl ?_
        refine Ops.pure H (X.load1 rfl rfl rfl rfl Pick.head (by assumption)) rfl rfl rfl ?_
        refine Ops.pure H (X.cmp rfl rfl rfl) rfl rfl rfl ?_
        (refine Ops.nil (hK _ _ ?_); clear hK K)
        refine Run.cond_dec rfl (fun h32 => ?x4) (fun h32 => ?y4)
        case' y4 =>
          refine Run.skip ?_
        case' x4 => exfalso; omega
        exact go (pb, _) _ _ ⟨g, h, olds, D.ext H.fr, fun o ho => (hO o ho).ext H.fr, hao.ext H.fr, hol⟩ (by repeat (first | exact trivial | refine ⟨rfl, ?_⟩))
    · rintro ⟨pb, av⟩ w4 ⟨g, h, olds, D, hO, hao, hol⟩
      dsimp only at D hao ⊢
      clear H
      obtain ⟨va, vc, rfl⟩ := hao.slice
      have hab4 := D.fr.get hab (by simp)
      have hbv4 := hxs.ext D.fr
      have hbb : ∀ a m cp, bv = .slice (some a) m cp → 0 < m → Free g h a.block := by
        intro a m cp e hm
        obtain ⟨a', cap', b', off', cs', T', fz', e', _, _, h4, _⟩ := hxs
        rw [e] at e'
        simp at e'
        obtain ⟨rfl, rfl, rfl⟩ := e'
        obtain ⟨e4, h5⟩ := h4 hm
        cases e4
        exact D.old (lt_of_at h5)
      have H := (Holds.start w4 []).add false hab4 (by simp) (by simp)
      refine Run.seq ?_
      (refine Run.region ?_; intro K hK)
      refine Ops.pure H (X.move rfl) rfl rfl rfl ?_
      refine Ops.pure H (X.move rfl) rfl rfl rfl ?_
      refine Ops.pure H (X.move rfl) rfl rfl rfl ?_
      refine Ops.pure H (X.indexAddr rfl rfl (by omega) rfl rfl rfl rfl) rfl rfl rfl ?_
      refine Ops.pure H (X.loadN rfl rfl rfl Pick.head (by assumption)) rfl rfl rfl ?_
      refine Ops.eff rfl (Y.call rfl rfl (by first | assumption | decide +kernel) rfl (does_any _ pb g h c bv i (D.ext H.fr).pr D.pf (D.ext H.fr).ap (by rw [D.ah, D.ag]) (by rw [D.ag]; exact hsok i) (by omega) (hbv4.ext H.fr) hxl hbb hxi) rfl ?_)
      rintro v w5 ⟨rfl, g', h', B, hg', hh'⟩
      rw [D.ag, ← hsi] at hg' hh'
      have D5 := (D.ext H.fr).step B hg' hh'
      have hO5 : ∀ o ∈ olds, Older w5 g' h' o := fun o ho => ((hO o ho).ext H.fr).step B
      have hA5 : Own w5 z.heap.size 24 1 (.slice va (olds.length + 1) vc) (olds.length + 1) (ptrsOf olds pb) := by
        obtain ⟨S, hfS, hS⟩ := B.fr
        exact (hao.ext H.fr).keepTy hfS (fun b hb => (hS b hb).elim (fun e => (D.ap.p.ext H.fr).no24 e) (fun e => (D.ap.d.ext H.fr).no24 e))
      clear H
      have H := Holds.start w5 []
      refine Ops.pure H (X.not rfl) rfl rfl rfl ?_
      refine Ops.pure H (X.move rfl) rfl rfl rfl ?_
      refine Ops.pure H (X.move rfl) rfl rfl rfl ?_
      have e1 : g'.fly.map (·.1) = (s (i + 1)).fly := by rw [← hg']; rfl
      have e2 : h'.air.map (·.1) = (s (i + 1)).fly := by rw [← hh']; rfl
      have hlen := (hsok (i + 1)).fly.1
      rw [← e1, List.length_map] at hlen
      have DE := D5.ext H.fr
      obtain ⟨tv, yv, xv, av, b1, _, _, _, b5⟩ := DE.ap.d.net
      refine Ops.eff rfl (Y.call rfl rfl (by first | assumption | decide +kernel) rfl (air_any _ pb g'.nb h'.rb g'.fb h'.ab g'.fly h'.air DE.pr DE.ap.p.flyAt ⟨⟨tv, yv, xv, av, b1, b5⟩, DE.ap.d.airb⟩ (e1.trans e2.symm) hlen (fun p hp => ((hsok (i + 1)).fly.2 p.1 (by rw [← e1]; exact List.mem_map.2 ⟨p, hp, rfl⟩)).2.2.1)) rfl ?_)
      rintro v w6 ⟨rfl, hf6⟩
      replace H := H.ext hf6
      refine Ops.pure H (X.not rfl) rfl rfl rfl ?_
      refine Ops.pure H (X.pick_f rfl rfl) rfl rfl rfl ?_
      (refine Ops.nil (hK _ _ ?_); clear hK K)
      refine Run.cond_false rfl ?_
      refine Run.skip ?_
      refine Run.inBlock ?_
      (refine Run.region ?_; intro K hK)
      refine Ops.pure H (X.move rfl) rfl rfl rfl ?_
      refine Ops.pure H (X.succ rfl rfl (by omega)) rfl rfl rfl ?_
      refine Ops.pure H (X.assign rfl) rfl rfl rfl ?_
      (refine Ops.nil (hK _ _ ?_); clear hK K)
      exact (IH (i + 1, pb, _) _ (by dsimp only; omega) ⟨by dsimp only; omega, g', h', olds, D5.ext H.fr, fun o ho => (hO5 o ho).ext H.fr, hA5.ext H.fr, hol⟩).weak (by repeat (first | exact trivial | refine ⟨rfl, ?_⟩))
  · obtain rfl : i = an := by omega
    have H := Holds.start w3 []
    refine Run.seq ?_
    refine Run.seq ?_
    (refine Run.region ?_; intro K hK)
    refine Ops.pure H (X.move rfl) rfl rfl rfl ?_
    refine Ops.pure H (X.move rfl) rfl rfl rfl ?_
    refine Ops.pure H (X.len_slice rfl rfl rfl) rfl rfl rfl ?_
    refine Ops.pure H (X.cmp rfl rfl rfl) rfl rfl rfl ?_
    (refine Ops.nil (hK _ _ ?_); clear hK K)
    refine Run.cond_dec rfl (fun h24 => ?x5) (fun h24 => ?y5)
    case' y5 =>
      refine Run.exit rfl ?_
      refine Run.seq ?_
      refine Run.seq ?_
      (refine Run.region ?_; intro K hK)
      refine Ops.pure H (X.assign rfl) rfl rfl rfl ?_
      (refine Ops.nil (hK _ _ ?_); clear hK K)
      refine Run.block ?_
    case' x5 => exfalso; omega
    have hF0 := H.fr
    clear H IH hA
    refine Run.rounds (fun (x : Nat) => [(7, .slice va (olds.length + 1) vc), (10, .int .i64 (x : Nat))]) (fun x w' => x ≤ olds.length + 1 ∧ Fr w3 w' []) (fun x => olds.length + 1 - x) 0 (by repeat (first | exact trivial | refine ⟨rfl, ?_⟩)) ⟨by omega, hF0⟩ ?_
    rintro x w4 ⟨hx, hF⟩ IH
    obtain ⟨ob, ocap, ocs, e, o1, o2, o3, o4, o5, o6⟩ := (hao.ext hF).get (by omega)
    cases e
    have H := (Holds.start w4 []).add false o4 (by simp) (by simp)
    by_cases hxl : x < olds.length + 1
    · by_cases hxo : x < olds.length
      · have hO1 := (hO _ (List.getElem_mem hxo)).ext (hF.then H.fr)
        have hcell : ocs[0 + x * 1]? = some (.pointer (some ⟨(olds[x]'hxo).pb, 0, none⟩)) := by
          rw [o6.toGet (by omega)]
          rw [Nat.mul_one, ptrsOf, List.getElem?_append_left (by simpa using hxo)]
          simp [hxo]
        generalize olds[x]'hxo = o at hO1 hcell
        refine Run.seq ?_
        refine Run.seq ?_
        (refine Run.region ?_; intro K hK)
        refine Ops.pure H (X.move rfl) rfl rfl rfl ?_
        refine Ops.pure H (X.move rfl) rfl rfl rfl ?_
        refine Ops.pure H (X.len_slice rfl rfl rfl) rfl rfl rfl ?_
        refine Ops.pure H (X.cmp rfl rfl rfl) rfl rfl rfl ?_
        (refine Ops.nil (hK _ _ ?_); clear hK K)
        refine Run.cond_dec rfl (fun h74 => ?x6) (fun h74 => ?y6)
        case' y6 => exfalso; omega
        case' x6 =>
          refine Run.skip ?_
          refine Run.seq ?_
          refine Run.block ?_
          refine Run.seq ?_
          (refine Run.region ?_; intro K hK)
          refine Ops.pure H (X.move rfl) rfl rfl rfl ?_
          refine Ops.pure H (X.move rfl) rfl rfl rfl ?_
          refine Ops.pure H (X.indexAddr rfl rfl (by omega) rfl rfl rfl rfl) rfl rfl rfl ?_
          refine Ops.pure H (X.load1 rfl rfl rfl rfl Pick.head (by assumption)) rfl rfl rfl ?_
        refine Ops.eff rfl (Y.call rfl rfl (by first | assumption | decide +kernel) rfl (air_any _ o.pb o.nb o.rb o.fb o.ab o.ps o.qs hO1.pr hO1.fl hO1.ar hO1.eq hO1.len hO1.lens) rfl ?_)
        rintro v w5 ⟨rfl, hf5⟩
        replace H := H.ext hf5
        refine Ops.pure H (X.not rfl) rfl rfl rfl ?_
        (refine Ops.nil (hK _ _ ?_); clear hK K)
        refine Run.cond_false rfl ?_
        refine Run.skip ?_
        refine Run.inBlock ?_
        (refine Run.region ?_; intro K hK)
        refine Ops.pure H (X.move rfl) rfl rfl rfl ?_
        refine Ops.pure H (X.succ rfl rfl (by omega)) rfl rfl rfl ?_
        refine Ops.pure H (X.assign rfl) rfl rfl rfl ?_
        (refine Ops.nil (hK _ _ ?_); clear hK K)
        exact (IH (x + 1) _ (by omega) ⟨by omega, hF.then H.fr⟩).weak (by repeat (first | exact trivial | refine ⟨rfl, ?_⟩))
      · obtain rfl : x = olds.length := by omega
        have hcell : ocs[0 + olds.length * 1]? = some (.pointer (some ⟨pb, 0, none⟩)) := by
          rw [o6.toGet (by omega)]
          simp [ptrsOf]
        have e1 : g.fly.map (·.1) = (s i).fly := by rw [← D.ag]; rfl
        have e2 : h.air.map (·.1) = (s i).fly := by rw [← D.ah]; rfl
        have hlen := (hsok i).fly.1
        rw [← e1, List.length_map] at hlen
        refine Run.seq ?_
        refine Run.seq ?_
        (refine Run.region ?_; intro K hK)
        refine Ops.pure H (X.move rfl) rfl rfl rfl ?_
        refine Ops.pure H (X.move rfl) rfl rfl rfl ?_
        refine Ops.pure H (X.len_slice rfl rfl rfl) rfl rfl rfl ?_
        refine Ops.pure H (X.cmp rfl rfl rfl) rfl rfl rfl ?_
        (refine Ops.nil (hK _ _ ?_); clear hK K)
        refine Run.cond_dec rfl (fun h74 => ?x7) (fun h74 => ?y7)
        case' y7 => exfalso; omega
        case' x7 =>
          refine Run.skip ?_
          refine Run.seq ?_
          refine Run.block ?_
          refine Run.seq ?_
          (refine Run.region ?_; intro K hK)
          refine Ops.pure H (X.move rfl) rfl rfl rfl ?_
          refine Ops.pure H (X.move rfl) rfl rfl rfl ?_
          refine Ops.pure H (X.indexAddr rfl rfl (by omega) rfl rfl rfl rfl) rfl rfl rfl ?_
          refine Ops.pure H (X.load1 rfl rfl rfl rfl Pick.head (by assumption)) rfl rfl rfl ?_
        have DE := (D.ext hF).ext H.fr
        obtain ⟨tv, yv, xv, av, b1, _, _, _, b5⟩ := DE.ap.d.net
        refine Ops.eff rfl (Y.call rfl rfl (by first | assumption | decide +kernel) rfl (air_any _ pb g.nb h.rb g.fb h.ab g.fly h.air DE.pr DE.ap.p.flyAt ⟨⟨tv, yv, xv, av, b1, b5⟩, DE.ap.d.airb⟩ (e1.trans e2.symm) hlen (fun p hp => ((hsok i).fly.2 p.1 (by rw [← e1]; exact List.mem_map.2 ⟨p, hp, rfl⟩)).2.2.1)) rfl ?_)
        rintro v w5 ⟨rfl, hf5⟩
        replace H := H.ext hf5
        refine Ops.pure H (X.not rfl) rfl rfl rfl ?_
        (refine Ops.nil (hK _ _ ?_); clear hK K)
        refine Run.cond_false rfl ?_
        refine Run.skip ?_
        refine Run.inBlock ?_
        (refine Run.region ?_; intro K hK)
        refine Ops.pure H (X.move rfl) rfl rfl rfl ?_
        refine Ops.pure H (X.succ rfl rfl (by omega)) rfl rfl rfl ?_
        refine Ops.pure H (X.assign rfl) rfl rfl rfl ?_
        (refine Ops.nil (hK _ _ ?_); clear hK K)
        exact (IH (olds.length + 1) _ (by omega) ⟨by omega, hF.then H.fr⟩).weak (by repeat (first | exact trivial | refine ⟨rfl, ?_⟩))
    · obtain rfl : x = olds.length + 1 := by omega
      refine Run.seq ?_
      refine Run.seq ?_
      (refine Run.region ?_; intro K hK)
      refine Ops.pure H (X.move rfl) rfl rfl rfl ?_
      refine Ops.pure H (X.move rfl) rfl rfl rfl ?_
      refine Ops.pure H (X.len_slice rfl rfl rfl) rfl rfl rfl ?_
      refine Ops.pure H (X.cmp rfl rfl rfl) rfl rfl rfl ?_
      (refine Ops.nil (hK _ _ ?_); clear hK K)
      refine Run.cond_dec rfl (fun h74 => ?x8) (fun h74 => ?y8)
      case' y8 =>
        refine Run.exit rfl ?_
        refine Run.seq ?_
        (refine Run.region ?_; intro K hK)
        refine Ops.pure H (X.assign rfl) rfl rfl rfl ?_
        (refine Ops.nil (hK _ _ ?_); clear hK K)
      case' x8 => exfalso; omega
      (first | refine Fn.ret1 HF rfl rfl ?_ | refine Fn.ret2 HF rfl rfl rfl ?_ | refine Fn.ret3 HF rfl rfl rfl rfl ?_ | refine Fn.ret0 HF rfl ?_ | refine Fn.fin0 HF rfl ?_ | refine Fn.retG (E := env) HF rfl H (by first | exact RVs.cellN rfl rfl rfl (by first | exact .head | exact .tail .head | exact .tail (.tail .head) | exact .tail (.tail (.tail .head)) | exact .tail (.tail (.tail (.tail .head))) | exact .tail (.tail (.tail (.tail (.tail .head)))) | exact .tail (.tail (.tail (.tail (.tail (.tail .head)))))) (by first | assumption | exact Cs.take rfl) RVs.nil | exact RVs.cellN rfl rfl rfl (by first | exact .head | exact .tail .head | exact .tail (.tail .head) | exact .tail (.tail (.tail .head)) | exact .tail (.tail (.tail (.tail .head))) | exact .tail (.tail (.tail (.tail (.tail .head)))) | exact .tail (.tail (.tail (.tail (.tail (.tail .head)))))) (by first | assumption | exact Cs.take rfl) (RVs.tmp rfl RVs.nil) | exact RVs.cellN rfl rfl rfl (by first | exact .head | exact .tail .head | exact .tail (.tail .head) | exact .tail (.tail (.tail .head)) | exact .tail (.tail (.tail (.tail .head))) | exact .tail (.tail (.tail (.tail (.tail .head)))) | exact .tail (.tail (.tail (.tail (.tail (.tail .head)))))) (by first | assumption | exact Cs.take rfl) (RVs.tmp rfl (RVs.tmp rfl RVs.nil))) rfl ?_)
      exact ⟨rfl, (D.fr.then hF).then H.fr⟩
end Go.Proofs.Ytpmihcefjdeonaa
