/- The tables of the law NetOnce in memory. No statement of the seat is proved here. -/
import Derived.Test.YtpmihcefjdeonaaQP
namespace Go.Proofs.Ytpmihcefjdeonaa
open Go
set_option maxRecDepth 20000
set_option maxHeartbeats 2000000
attribute [local irreducible] Run Ops Fn Draw Draw2 PureOp StepZ

def Ns.alone (s : Ns) (c : AC) : Ns :=
  if c.kind = 2 then s.deliver c.i
  else if c.kind = 3 then s.lose c.i
  else if c.kind = 4 then s.twice c.i
  else if c.kind = 5 then s.tick c.a
  else if c.kind = 6 then s.down c.a
  else s
theorem Ns.Ok.alone {s : Ns} {k : Nat} (h : s.Ok k) (c : AC) : (s.alone c).Ok (k + 1) := by
  have hm := Nat.le_succ k
  unfold Ns.alone
  repeat' split
  · exact h.deliver _
  · exact (h.lose _).mono hm
  · exact (h.twice _).mono hm
  · exact (h.tick _).mono hm
  · exact (h.down _).mono hm
  · exact h.mono hm
theorem Ns.Inv.alone {s : Ns} (h : s.Inv) (c : AC) : (s.alone c).Inv := by
  unfold Ns.alone
  repeat' split
  · exact h.deliver _
  · exact h.lose _
  · exact h.twice _
  · exact h.tick _
  · exact h.down _
  · exact h
theorem Onc.alone {n : Nat} {s : Ns} {o : OS} (h : Onc n s o) (hI : s.Inv) (hn : s.n = n) (c : AC) : Onc n (s.alone c) o := by
  unfold Ns.alone
  repeat' split
  · exact h.deliver hI hn _
  · exact h.lose _
  · exact h.twice _
  · exact h.tick _
  · exact h.downS _
  · exact h
theorem alone_n (s : Ns) (c : AC) : (s.alone c).n = s.n := by
  have := act_n s { c with how := false }
  unfold Ns.alone
  unfold Ns.act Ns.place at this
  dsimp only at this
  repeat' split
  all_goals simp_all
theorem alone_any (z : World) (g : PG) (c : AC) (bv d : Value) (k : Nat) {nb : Nat} (hnb : g.nb = nb) (h : PN z g) (hok : g.abs.Ok k) (hk : k ≤ 4398046511000) (hbv : bv.oneCell' = true ∧ ∃ a n cp, bv = .slice a n cp) (hd : ∃ p, d = .pointer p) : Fn env.P 20 [.agg #[.pointer (some ⟨nb, 0, none⟩), d], .agg (acC c bv).toArray] z fun _ w' => ∃ g', PStep z g w' g' ∧ g'.abs = g.abs.alone c := by
  subst hnb
  obtain ⟨_, ba, bn, bc, rfl⟩ := hbv
  obtain ⟨dp, rfl⟩ := hd
  have H := Holds.start z []
  unfold acC
  have HF := Try.func20; refine Fn.enter Try.func20 Try.ntmps20 rfl rfl rfl ?_
  refine Run.seq ?_
  (refine Run.region ?_; intro K hK)
  (refine Ops.eff rfl (Y.box rfl rfl rfl H ?_); intro b2 w H0 hb2; clear H; have H := H0; clear H0)
  (refine Ops.eff rfl (Y.box rfl rfl rfl H ?_); intro b3 w H0 hb3; clear H; have H := H0; clear H0)
  (refine Ops.nil (hK _ _ ?_); clear hK K)
  refine Run.seq ?_
  (refine Run.region ?_; intro K hK)
  refine Ops.pure H (X.fieldAddr rfl rfl rfl rfl rfl rfl) rfl rfl rfl ?_
  refine Ops.pure H (X.load1 rfl rfl rfl rfl Pick.head rfl) rfl rfl rfl ?_
  (refine Ops.nil (hK _ _ ?_); clear hK K)
  refine Run.block ?_
  refine Run.seq ?_
  (refine Run.region ?_; intro K hK)
  refine Ops.pure H (X.cmp rfl rfl rfl) rfl rfl rfl ?_
  refine Ops.pure H (X.assign rfl) rfl rfl rfl ?_
  (refine Ops.nil (hK _ _ ?_); clear hK K)
  refine Run.cond_dec rfl (fun h6 => ?x0) (fun h6 => ?y0)
  case' y0 =>
    refine Run.seq ?_
    (refine Run.region ?_; intro K hK)
    refine Ops.pure H (X.cmp rfl rfl rfl) rfl rfl rfl ?_
    refine Ops.pure H (X.assign rfl) rfl rfl rfl ?_
    (refine Ops.nil (hK _ _ ?_); clear hK K)
    refine Run.cond_dec rfl (fun h13 => ?x1) (fun h13 => ?y1)
    case' y1 =>
      refine Run.seq ?_
      (refine Run.region ?_; intro K hK)
      refine Ops.pure H (X.cmp rfl rfl rfl) rfl rfl rfl ?_
      refine Ops.pure H (X.assign rfl) rfl rfl rfl ?_
      (refine Ops.nil (hK _ _ ?_); clear hK K)
      refine Run.cond_dec rfl (fun h20 => ?x2) (fun h20 => ?y2)
      case' y2 =>
        refine Run.seq ?_
        (refine Run.region ?_; intro K hK)
        refine Ops.pure H (X.cmp rfl rfl rfl) rfl rfl rfl ?_
        refine Ops.pure H (X.assign rfl) rfl rfl rfl ?_
        (refine Ops.nil (hK _ _ ?_); clear hK K)
        refine Run.cond_dec rfl (fun h27 => ?x3) (fun h27 => ?y3)
        case' y3 =>
          refine Run.seq ?_
          (refine Run.region ?_; intro K hK)
          refine Ops.pure H (X.cmp rfl rfl rfl) rfl rfl rfl ?_
          refine Ops.pure H (X.assign rfl) rfl rfl rfl ?_
          (refine Ops.nil (hK _ _ ?_); clear hK K)
          refine Run.cond_dec rfl (fun h34 => ?x4) (fun h34 => ?y4)
          case' y4 =>
            refine Run.skip ?_
            refine Run.inBlock ?_
          case' x4 =>
            (refine Run.region ?_; intro K hK)
            refine Ops.pure H (X.fieldAddr rfl rfl rfl rfl rfl rfl) rfl rfl rfl ?_
            refine Ops.pure H (X.load1 rfl rfl rfl rfl (.tail .head) rfl) rfl rfl rfl ?_
            refine Ops.pure H (X.fieldAddr rfl rfl rfl rfl rfl rfl) rfl rfl rfl ?_
            refine Ops.pure H (X.load1 rfl rfl rfl rfl Pick.head rfl) rfl rfl rfl ?_
        case' x3 =>
          (refine Run.region ?_; intro K hK)
          refine Ops.pure H (X.fieldAddr rfl rfl rfl rfl rfl rfl) rfl rfl rfl ?_
          refine Ops.pure H (X.load1 rfl rfl rfl rfl (.tail .head) rfl) rfl rfl rfl ?_
          refine Ops.pure H (X.fieldAddr rfl rfl rfl rfl rfl rfl) rfl rfl rfl ?_
          refine Ops.pure H (X.load1 rfl rfl rfl rfl Pick.head rfl) rfl rfl rfl ?_
      case' x2 =>
        (refine Run.region ?_; intro K hK)
        refine Ops.pure H (X.fieldAddr rfl rfl rfl rfl rfl rfl) rfl rfl rfl ?_
        refine Ops.pure H (X.load1 rfl rfl rfl rfl (.tail .head) rfl) rfl rfl rfl ?_
        refine Ops.pure H (X.fieldAddr rfl rfl rfl rfl rfl rfl) rfl rfl rfl ?_
        refine Ops.pure H (X.load1 rfl rfl rfl rfl Pick.head rfl) rfl rfl rfl ?_
    case' x1 =>
      (refine Run.region ?_; intro K hK)
      refine Ops.pure H (X.fieldAddr rfl rfl rfl rfl rfl rfl) rfl rfl rfl ?_
      refine Ops.pure H (X.load1 rfl rfl rfl rfl (.tail .head) rfl) rfl rfl rfl ?_
      refine Ops.pure H (X.fieldAddr rfl rfl rfl rfl rfl rfl) rfl rfl rfl ?_
      refine Ops.pure H (X.load1 rfl rfl rfl rfl Pick.head rfl) rfl rfl rfl ?_
  case' x0 =>
    (refine Run.region ?_; intro K hK)
    refine Ops.pure H (X.fieldAddr rfl rfl rfl rfl rfl rfl) rfl rfl rfl ?_
    refine Ops.pure H (X.load1 rfl rfl rfl rfl (.tail .head) rfl) rfl rfl rfl ?_
    refine Ops.pure H (X.fieldAddr rfl rfl rfl rfl rfl rfl) rfl rfl rfl ?_
    refine Ops.pure H (X.load1 rfl rfl rfl rfl Pick.head rfl) rfl rfl rfl ?_
  · refine Ops.eff rfl (Y.call rfl rfl (by first | assumption | decide +kernel) rfl (deliver_any _ g c.i k (h.ext H.fr) hok hk) rfl ?_)
    rintro v w2 ⟨_, g', st, hab⟩
    replace st := st.pre h H.fr
    clear H
    have H := Holds.start w2 []
    (refine Ops.nil (hK _ _ ?_); clear hK K)
    refine Run.inBlock ?_
    (first | refine Fn.ret1 HF rfl rfl ?_ | refine Fn.ret2 HF rfl rfl rfl ?_ | refine Fn.ret3 HF rfl rfl rfl rfl ?_ | refine Fn.ret0 HF rfl ?_ | refine Fn.fin0 HF rfl ?_ | refine Fn.retG (E := env) HF rfl H (by first | exact RVs.cellN rfl rfl rfl (by first | exact .head | exact .tail .head | exact .tail (.tail .head) | exact .tail (.tail (.tail .head)) | exact .tail (.tail (.tail (.tail .head))) | exact .tail (.tail (.tail (.tail (.tail .head)))) | exact .tail (.tail (.tail (.tail (.tail (.tail .head)))))) (by first | assumption | exact Cs.take rfl) RVs.nil | exact RVs.cellN rfl rfl rfl (by first | exact .head | exact .tail .head | exact .tail (.tail .head) | exact .tail (.tail (.tail .head)) | exact .tail (.tail (.tail (.tail .head))) | exact .tail (.tail (.tail (.tail (.tail .head)))) | exact .tail (.tail (.tail (.tail (.tail (.tail .head)))))) (by first | assumption | exact Cs.take rfl) (RVs.tmp rfl RVs.nil) | exact RVs.cellN rfl rfl rfl (by first | exact .head | exact .tail .head | exact .tail (.tail .head) | exact .tail (.tail (.tail .head)) | exact .tail (.tail (.tail (.tail .head))) | exact .tail (.tail (.tail (.tail (.tail .head)))) | exact .tail (.tail (.tail (.tail (.tail (.tail .head)))))) (by first | assumption | exact Cs.take rfl) (RVs.tmp rfl (RVs.tmp rfl RVs.nil))) rfl ?_)
    exact ⟨g', st.ext H.fr, by rw [hab]; unfold Ns.alone; rw [if_pos h6]⟩
  · refine Ops.eff rfl (Y.call rfl rfl (by first | assumption | decide +kernel) rfl (lose_any _ g c.i k (h.ext H.fr) hok) rfl ?_)
    rintro v w2 ⟨_, g', st, hab⟩
    replace st := st.pre h H.fr
    clear H
    have H := Holds.start w2 []
    (refine Ops.nil (hK _ _ ?_); clear hK K)
    refine Run.inBlock ?_
    (first | refine Fn.ret1 HF rfl rfl ?_ | refine Fn.ret2 HF rfl rfl rfl ?_ | refine Fn.ret3 HF rfl rfl rfl rfl ?_ | refine Fn.ret0 HF rfl ?_ | refine Fn.fin0 HF rfl ?_ | refine Fn.retG (E := env) HF rfl H (by first | exact RVs.cellN rfl rfl rfl (by first | exact .head | exact .tail .head | exact .tail (.tail .head) | exact .tail (.tail (.tail .head)) | exact .tail (.tail (.tail (.tail .head))) | exact .tail (.tail (.tail (.tail (.tail .head)))) | exact .tail (.tail (.tail (.tail (.tail (.tail .head)))))) (by first | assumption | exact Cs.take rfl) RVs.nil | exact RVs.cellN rfl rfl rfl (by first | exact .head | exact .tail .head | exact .tail (.tail .head) | exact .tail (.tail (.tail .head)) | exact .tail (.tail (.tail (.tail .head))) | exact .tail (.tail (.tail (.tail (.tail .head)))) | exact .tail (.tail (.tail (.tail (.tail (.tail .head)))))) (by first | assumption | exact Cs.take rfl) (RVs.tmp rfl RVs.nil) | exact RVs.cellN rfl rfl rfl (by first | exact .head | exact .tail .head | exact .tail (.tail .head) | exact .tail (.tail (.tail .head)) | exact .tail (.tail (.tail (.tail .head))) | exact .tail (.tail (.tail (.tail (.tail .head)))) | exact .tail (.tail (.tail (.tail (.tail (.tail .head)))))) (by first | assumption | exact Cs.take rfl) (RVs.tmp rfl (RVs.tmp rfl RVs.nil))) rfl ?_)
    exact ⟨g', st.ext H.fr, by rw [hab]; unfold Ns.alone; rw [if_neg h6, if_pos h13]⟩
  · refine Ops.eff rfl (Y.call rfl rfl (by first | assumption | decide +kernel) rfl (twice_any _ g c.i k (h.ext H.fr) hok) rfl ?_)
    rintro v w2 ⟨_, g', st, hab⟩
    replace st := st.pre h H.fr
    clear H
    have H := Holds.start w2 []
    (refine Ops.nil (hK _ _ ?_); clear hK K)
    refine Run.inBlock ?_
    (first | refine Fn.ret1 HF rfl rfl ?_ | refine Fn.ret2 HF rfl rfl rfl ?_ | refine Fn.ret3 HF rfl rfl rfl rfl ?_ | refine Fn.ret0 HF rfl ?_ | refine Fn.fin0 HF rfl ?_ | refine Fn.retG (E := env) HF rfl H (by first | exact RVs.cellN rfl rfl rfl (by first | exact .head | exact .tail .head | exact .tail (.tail .head) | exact .tail (.tail (.tail .head)) | exact .tail (.tail (.tail (.tail .head))) | exact .tail (.tail (.tail (.tail (.tail .head)))) | exact .tail (.tail (.tail (.tail (.tail (.tail .head)))))) (by first | assumption | exact Cs.take rfl) RVs.nil | exact RVs.cellN rfl rfl rfl (by first | exact .head | exact .tail .head | exact .tail (.tail .head) | exact .tail (.tail (.tail .head)) | exact .tail (.tail (.tail (.tail .head))) | exact .tail (.tail (.tail (.tail (.tail .head)))) | exact .tail (.tail (.tail (.tail (.tail (.tail .head)))))) (by first | assumption | exact Cs.take rfl) (RVs.tmp rfl RVs.nil) | exact RVs.cellN rfl rfl rfl (by first | exact .head | exact .tail .head | exact .tail (.tail .head) | exact .tail (.tail (.tail .head)) | exact .tail (.tail (.tail (.tail .head))) | exact .tail (.tail (.tail (.tail (.tail .head)))) | exact .tail (.tail (.tail (.tail (.tail (.tail .head)))))) (by first | assumption | exact Cs.take rfl) (RVs.tmp rfl (RVs.tmp rfl RVs.nil))) rfl ?_)
    exact ⟨g', st.ext H.fr, by rw [hab]; unfold Ns.alone; rw [if_neg h6, if_neg h13, if_pos h20]⟩
  · refine Ops.eff rfl (Y.call rfl rfl (by first | assumption | decide +kernel) rfl (tick_any _ g c.a k (h.ext H.fr) hok hk) rfl ?_)
    rintro v w2 ⟨_, g', st, hab⟩
    replace st := st.pre h H.fr
    clear H
    have H := Holds.start w2 []
    (refine Ops.nil (hK _ _ ?_); clear hK K)
    refine Run.inBlock ?_
    (first | refine Fn.ret1 HF rfl rfl ?_ | refine Fn.ret2 HF rfl rfl rfl ?_ | refine Fn.ret3 HF rfl rfl rfl rfl ?_ | refine Fn.ret0 HF rfl ?_ | refine Fn.fin0 HF rfl ?_ | refine Fn.retG (E := env) HF rfl H (by first | exact RVs.cellN rfl rfl rfl (by first | exact .head | exact .tail .head | exact .tail (.tail .head) | exact .tail (.tail (.tail .head)) | exact .tail (.tail (.tail (.tail .head))) | exact .tail (.tail (.tail (.tail (.tail .head)))) | exact .tail (.tail (.tail (.tail (.tail (.tail .head)))))) (by first | assumption | exact Cs.take rfl) RVs.nil | exact RVs.cellN rfl rfl rfl (by first | exact .head | exact .tail .head | exact .tail (.tail .head) | exact .tail (.tail (.tail .head)) | exact .tail (.tail (.tail (.tail .head))) | exact .tail (.tail (.tail (.tail (.tail .head)))) | exact .tail (.tail (.tail (.tail (.tail (.tail .head)))))) (by first | assumption | exact Cs.take rfl) (RVs.tmp rfl RVs.nil) | exact RVs.cellN rfl rfl rfl (by first | exact .head | exact .tail .head | exact .tail (.tail .head) | exact .tail (.tail (.tail .head)) | exact .tail (.tail (.tail (.tail .head))) | exact .tail (.tail (.tail (.tail (.tail .head)))) | exact .tail (.tail (.tail (.tail (.tail (.tail .head)))))) (by first | assumption | exact Cs.take rfl) (RVs.tmp rfl (RVs.tmp rfl RVs.nil))) rfl ?_)
    exact ⟨g', st.ext H.fr, by rw [hab]; unfold Ns.alone; rw [if_neg h6, if_neg h13, if_neg h20, if_pos h27]⟩
  · refine Ops.eff rfl (Y.call rfl rfl (by first | assumption | decide +kernel) rfl (down_any _ g c.a (h.ext H.fr)) rfl ?_)
    rintro v w2 ⟨_, g', st, hab⟩
    replace st := st.pre h H.fr
    clear H
    have H := Holds.start w2 []
    (refine Ops.nil (hK _ _ ?_); clear hK K)
    refine Run.inBlock ?_
    (first | refine Fn.ret1 HF rfl rfl ?_ | refine Fn.ret2 HF rfl rfl rfl ?_ | refine Fn.ret3 HF rfl rfl rfl rfl ?_ | refine Fn.ret0 HF rfl ?_ | refine Fn.fin0 HF rfl ?_ | refine Fn.retG (E := env) HF rfl H (by first | exact RVs.cellN rfl rfl rfl (by first | exact .head | exact .tail .head | exact .tail (.tail .head) | exact .tail (.tail (.tail .head)) | exact .tail (.tail (.tail (.tail .head))) | exact .tail (.tail (.tail (.tail (.tail .head)))) | exact .tail (.tail (.tail (.tail (.tail (.tail .head)))))) (by first | assumption | exact Cs.take rfl) RVs.nil | exact RVs.cellN rfl rfl rfl (by first | exact .head | exact .tail .head | exact .tail (.tail .head) | exact .tail (.tail (.tail .head)) | exact .tail (.tail (.tail (.tail .head))) | exact .tail (.tail (.tail (.tail (.tail .head)))) | exact .tail (.tail (.tail (.tail (.tail (.tail .head)))))) (by first | assumption | exact Cs.take rfl) (RVs.tmp rfl RVs.nil) | exact RVs.cellN rfl rfl rfl (by first | exact .head | exact .tail .head | exact .tail (.tail .head) | exact .tail (.tail (.tail .head)) | exact .tail (.tail (.tail (.tail .head))) | exact .tail (.tail (.tail (.tail (.tail .head)))) | exact .tail (.tail (.tail (.tail (.tail (.tail .head)))))) (by first | assumption | exact Cs.take rfl) (RVs.tmp rfl (RVs.tmp rfl RVs.nil))) rfl ?_)
    exact ⟨g', st.ext H.fr, by rw [hab]; unfold Ns.alone; rw [if_neg h6, if_neg h13, if_neg h20, if_neg h27, if_pos h34]⟩
  · (first | refine Fn.ret1 HF rfl rfl ?_ | refine Fn.ret2 HF rfl rfl rfl ?_ | refine Fn.ret3 HF rfl rfl rfl rfl ?_ | refine Fn.ret0 HF rfl ?_ | refine Fn.fin0 HF rfl ?_ | refine Fn.retG (E := env) HF rfl H (by first | exact RVs.cellN rfl rfl rfl (by first | exact .head | exact .tail .head | exact .tail (.tail .head) | exact .tail (.tail (.tail .head)) | exact .tail (.tail (.tail (.tail .head))) | exact .tail (.tail (.tail (.tail (.tail .head)))) | exact .tail (.tail (.tail (.tail (.tail (.tail .head)))))) (by first | assumption | exact Cs.take rfl) RVs.nil | exact RVs.cellN rfl rfl rfl (by first | exact .head | exact .tail .head | exact .tail (.tail .head) | exact .tail (.tail (.tail .head)) | exact .tail (.tail (.tail (.tail .head))) | exact .tail (.tail (.tail (.tail (.tail .head)))) | exact .tail (.tail (.tail (.tail (.tail (.tail .head)))))) (by first | assumption | exact Cs.take rfl) (RVs.tmp rfl RVs.nil) | exact RVs.cellN rfl rfl rfl (by first | exact .head | exact .tail .head | exact .tail (.tail .head) | exact .tail (.tail (.tail .head)) | exact .tail (.tail (.tail (.tail .head))) | exact .tail (.tail (.tail (.tail (.tail .head)))) | exact .tail (.tail (.tail (.tail (.tail (.tail .head)))))) (by first | assumption | exact Cs.take rfl) (RVs.tmp rfl (RVs.tmp rfl RVs.nil))) rfl ?_)
    exact ⟨g, .rfl' h H.fr, by unfold Ns.alone; rw [if_neg h6, if_neg h13, if_neg h20, if_neg h27, if_neg h34]⟩
end Go.Proofs.Ytpmihcefjdeonaa

namespace Go.Proofs.Ytpmihcefjdeonaa
open Go

structure TB where
  sb : Nat
  gb : Nat
  qb : Nat
  sr : Nat → Nat
  gr : Nat → Nat
  qr : Nat → Nat
  sv : Nat → Nat → Value
  sx : Nat → Nat → Option Nat
def TBl (n : Nat) (B : TB) (b : Nat) : Prop := b = B.sb ∨ b = B.gb ∨ b = B.qb ∨ (∃ i, i < n ∧ (b = B.sr i ∨ b = B.gr i ∨ b = B.qr i)) ∨ ∃ f t, f < n ∧ t < n ∧ B.sx f t = some b
def strs (l : List (List Int)) : List Value := l.map fun b => .string (strOfNums b)
structure TS (w : World) (n : Nat) (B : TB) (o : OS) : Prop where
  s : Tab w B.sb 45 50 n B.sr B.sv
  g : Tab w B.gb 46 3 n B.gr fun f t => .int .i64 (o.got f t : Nat)
  q : Tab w B.qb 46 3 n B.qr fun f t => .int .i64 (o.old f t : Nat)
  l : ∀ f t, f < n → t < n → Lst w (B.sv f t) (B.sx f t) 9 1 (o.sent f t).length (strs (o.sent f t))
  lx : ∀ f t f' t' q, f < n → t < n → f' < n → t' < n → B.sx f t = some q → B.sx f' t' = some q → f = f' ∧ t = t'
  gq : ∀ i j, i < n → j < n → B.gr i ≠ B.qr j
  bq : B.gb ≠ B.qb
theorem rowOf_congr {n : Nat} {f g : Nat → Value} (h : ∀ i, i < n → f i = g i) : rowOf n f = rowOf n g := by
  unfold rowOf
  exact List.map_congr_left fun i hi => h i (by simpa using hi)
theorem Tab.congr {w : World} {ob T1 T2 n : Nat} {rows : Nat → Nat} {C C' : Nat → Nat → Value} (h : Tab w ob T1 T2 n rows C) (hc : ∀ i j, i < n → j < n → C i j = C' i j) : Tab w ob T1 T2 n rows C' :=
  ⟨h.o, fun i hi => by rw [h.r i hi, rowOf_congr (fun j hj => hc i j hi hj)], h.d⟩
theorem TS.ty {w : World} {n : Nat} {B : TB} {o : OS} (h : TS w n B o) {b : Nat} (hb : TBl n B b) : ∃ cs T, w.heap[b]? = some (row cs T) ∧ T ∈ [45, 46, 50, 3, 9] := by
  rcases hb with rfl | rfl | rfl | ⟨i, hi, rfl | rfl | rfl⟩ | ⟨f, t, hf, ht, hx⟩
  · exact ⟨_, 45, h.s.o, by simp⟩
  · exact ⟨_, 46, h.g.o, by simp⟩
  · exact ⟨_, 46, h.q.o, by simp⟩
  · exact ⟨_, 50, h.s.r i hi, by simp⟩
  · exact ⟨_, 3, h.g.r i hi, by simp⟩
  · exact ⟨_, 3, h.q.r i hi, by simp⟩
  · have := h.l f t hf ht
    rw [hx] at this
    obtain ⟨cs, hcs⟩ := this.ty
    exact ⟨cs, 9, hcs, by simp⟩
theorem TS.notP {w : World} {n : Nat} {B : TB} {o : OS} (h : TS w n B o) {g : PG} (hp : PN w g) {b : Nat} (hb : TBl n B b) : ¬ PF g b ∧ ¬ PI g b := by
  obtain ⟨cs, T, h1, h2⟩ := h.ty hb
  refine hp.apart h1 (fun hm => ?_)
  simp only [List.mem_cons, List.not_mem_nil, or_false] at h2
  rcases h2 with rfl | rfl | rfl | rfl | rfl <;> exact absurd hm (by decide)
theorem TS.keep {w w' : World} {S : List Nat} {n : Nat} {B : TB} {o : OS} (h : TS w n B o) (hf : Fr w w' S) (hS : ∀ b ∈ S, ¬ TBl n B b) : TS w' n B o :=
  ⟨h.s.keep hf (fun hm => hS _ hm (.inl rfl)) (fun i hi hm => hS _ hm (.inr (.inr (.inr (.inl ⟨i, hi, .inl rfl⟩))))),
   h.g.keep hf (fun hm => hS _ hm (.inr (.inl rfl))) (fun i hi hm => hS _ hm (.inr (.inr (.inr (.inl ⟨i, hi, .inr (.inl rfl)⟩))))),
   h.q.keep hf (fun hm => hS _ hm (.inr (.inr (.inl rfl)))) (fun i hi hm => hS _ hm (.inr (.inr (.inr (.inl ⟨i, hi, .inr (.inr rfl)⟩))))),
   fun f t hf' ht => (h.l f t hf' ht).keep hf (fun b hb hm => hS b hm (.inr (.inr (.inr (.inr ⟨f, t, hf', ht, hb⟩))))), h.lx, h.gq, h.bq⟩
theorem TS.ext {w w' : World} {n : Nat} {B : TB} {o : OS} (h : TS w n B o) (hf : Fr w w' []) : TS w' n B o := h.keep hf (by simp)
theorem TS.step {w w' : World} {n : Nat} {B : TB} {o : OS} (h : TS w n B o) {g g' : PG} (st : PStep w g w' g') (hp : PN w g) : TS w' n B o := by
  obtain ⟨S, hf, hS⟩ := st.fr
  exact h.keep hf (fun b hb hm => (h.notP hp hm).1 (hS b hb))
theorem TS.congr {w : World} {n : Nat} {B : TB} {o o' : OS} (h : TS w n B o) (hc : ∀ f t, f < n → t < n → o.sent f t = o'.sent f t ∧ o.got f t = o'.got f t ∧ o.old f t = o'.old f t) : TS w n B o' :=
  ⟨h.s, h.g.congr (fun i j hi hj => by rw [(hc i j hi hj).2.1]), h.q.congr (fun i j hi hj => by rw [(hc i j hi hj).2.2]), fun f t hf ht => by rw [← (hc f t hf ht).1]; exact h.l f t hf ht, h.lx, h.gq, h.bq⟩
section
variable {w w' : World} {n : Nat} {B : TB} {o : OS}
theorem TS.setGot {f t v : Nat} (h : TS w n B o) (hf : f < n) (F : Fr w w' [B.gr f]) (hw : w'.heap[B.gr f]? = some (row ((rowOf n fun t => .int .i64 (o.got f t : Nat)).set t (.int .i64 (v : Nat))) 3)) : TS w' n B { o with got := upd2 o.got f t v } := by
  have hr := h.g.r f hf
  refine ⟨h.s.keep F (by simpa using ne_of_ty h.s.o hr (by decide)) (fun i hi => by simpa using ne_of_ty (h.s.r i hi) hr (by decide)), ?_, h.q.keep F (by simpa using ne_of_ty h.q.o hr (by decide)) (fun i hi => by simpa using (h.gq f i hf hi).symm), fun a b ha hb => (h.l a b ha hb).keep F (fun q hq => ?_), h.lx, h.gq, h.bq⟩
  · refine (h.g.set (j := t) (v := .int .i64 (v : Nat)) hf F (ne_of_ty h.g.o hr (by decide)) hw).congr (fun a b _ _ => ?_)
    unfold upd2
    dsimp only
    by_cases e : a = f ∧ b = t
    · rw [if_pos e, if_pos e]
    · rw [if_neg e, if_neg e]
  · have := h.l a b ha hb
    rw [hq] at this
    obtain ⟨cs, hcs⟩ := this.ty
    simpa using ne_of_ty hcs hr (by decide)
theorem TS.setOld {f t v : Nat} (h : TS w n B o) (hf : f < n) (F : Fr w w' [B.qr f]) (hw : w'.heap[B.qr f]? = some (row ((rowOf n fun t => .int .i64 (o.old f t : Nat)).set t (.int .i64 (v : Nat))) 3)) : TS w' n B { o with old := upd2 o.old f t v } := by
  have hr := h.q.r f hf
  refine ⟨h.s.keep F (by simpa using ne_of_ty h.s.o hr (by decide)) (fun i hi => by simpa using ne_of_ty (h.s.r i hi) hr (by decide)), h.g.keep F (by simpa using ne_of_ty h.g.o hr (by decide)) (fun i hi => by simpa using (h.gq i f hi hf)), ?_, fun a b ha hb => (h.l a b ha hb).keep F (fun q hq => ?_), h.lx, h.gq, h.bq⟩
  · refine (h.q.set (j := t) (v := .int .i64 (v : Nat)) hf F (ne_of_ty h.q.o hr (by decide)) hw).congr (fun a b _ _ => ?_)
    unfold upd2
    dsimp only
    by_cases e : a = f ∧ b = t
    · rw [if_pos e, if_pos e]
    · rw [if_neg e, if_neg e]
  · have := h.l a b ha hb
    rw [hq] at this
    obtain ⟨cs, hcs⟩ := this.ty
    simpa using ne_of_ty hcs hr (by decide)
/-- Another list of what was sent on a way. -/
theorem TS.setSent {f t : Nat} {S : List Nat} {v : Value} {ob : Option Nat} {l : List (List Int)} (h : TS w n B o) (hf : f < n) (ht : t < n) (F : Fr w w' S) (hS : ∀ b ∈ S, b = B.sr f ∨ B.sx f t = some b) (hw : w'.heap[B.sr f]? = some (row ((rowOf n (B.sv f)).set t v) 50)) (hL : Lst w' v ob 9 1 l.length (strs l)) (ho : ∀ b, ob = some b → B.sx f t = some b ∨ w.heap.size ≤ b) : TS w' n { B with sv := upd2 B.sv f t v, sx := upd2 B.sx f t ob } { o with sent := upd2 o.sent f t l } := by
  have hr := h.s.r f hf
  have hx9 : ∀ b, B.sx f t = some b → ∃ cs, w.heap[b]? = some (row cs 9) := fun b hb => by have := h.l f t hf ht; rw [hb] at this; exact this.ty
  have key : ∀ b cs T, w.heap[b]? = some (row cs T) → T ≠ 50 → T ≠ 9 → b ∉ S := by
    intro b cs T hb h1 h2 hm
    rcases hS b hm with e | e
    · exact ne_of_ty hb hr h1 e
    · obtain ⟨cs', hcs⟩ := hx9 b e
      exact ne_of_ty hb hcs h2 rfl
  have hltx : ∀ a b q, a < n → b < n → B.sx a b = some q → q < w.heap.size := fun a b q ha hb hq => (h.l a b ha hb).lt hq
  refine ⟨⟨F.get h.s.o (key _ _ _ h.s.o (by decide) (by decide)), fun a ha => ?_, h.s.d⟩, h.g.keep F (key _ _ _ h.g.o (by decide) (by decide)) (fun i hi => key _ _ _ (h.g.r i hi) (by decide) (by decide)), h.q.keep F (key _ _ _ h.q.o (by decide) (by decide)) (fun i hi => key _ _ _ (h.q.r i hi) (by decide) (by decide)), fun a b ha hb => ?_, fun a b a' b' q ha hb ha' hb' e1 e2 => ?_, h.gq, h.bq⟩
  · show w'.heap[B.sr a]? = some (row (rowOf n (upd2 B.sv f t v a)) 50)
    by_cases e : a = f
    · subst e
      rw [hw, rowOf_set]
      congr 2
      refine rowOf_congr fun j _ => ?_
      unfold upd2 updb
      by_cases ej : j = t
      · rw [if_pos ej, if_pos ⟨rfl, ej⟩]
      · rw [if_neg ej, if_neg (fun q => ej q.2)]
    · have hn : B.sr a ∉ S := fun hm => by
        rcases hS _ hm with q | q
        · exact h.s.d a f ha hf e q
        · obtain ⟨cs, hcs⟩ := hx9 _ q
          exact ne_of_ty (h.s.r a ha) hcs (by decide) rfl
      rw [F.get (h.s.r a ha) hn]
      congr 2
      refine rowOf_congr fun j _ => ?_
      unfold upd2
      rw [if_neg (fun q => e q.1)]
  · show Lst w' (upd2 B.sv f t v a b) (upd2 B.sx f t ob a b) 9 1 (upd2 o.sent f t l a b).length (strs (upd2 o.sent f t l a b))
    unfold upd2
    by_cases e : a = f ∧ b = t
    · rw [if_pos e, if_pos e, if_pos e]; exact hL
    · rw [if_neg e, if_neg e, if_neg e]
      refine (h.l a b ha hb).keep F (fun q hq hm => ?_)
      rcases hS q hm with e1 | e1
      · have := h.l a b ha hb
        rw [hq] at this
        obtain ⟨cs, hcs⟩ := this.ty
        exact ne_of_ty hcs hr (by decide) e1
      · exact e (h.lx a b f t q ha hb hf ht hq e1)
  · replace e1 : upd2 B.sx f t ob a b = some q := e1
    replace e2 : upd2 B.sx f t ob a' b' = some q := e2
    unfold upd2 at e1 e2
    by_cases c1 : a = f ∧ b = t
    · rw [if_pos c1] at e1
      by_cases c2 : a' = f ∧ b' = t
      · exact ⟨c1.1.trans c2.1.symm, c1.2.trans c2.2.symm⟩
      · rw [if_neg c2] at e2
        rcases ho q e1 with e3 | e3
        · exact absurd (h.lx a' b' f t q ha' hb' hf ht e2 e3) c2
        · have := hltx a' b' q ha' hb' e2; omega
    · rw [if_neg c1] at e1
      by_cases c2 : a' = f ∧ b' = t
      · rw [if_pos c2] at e2
        rcases ho q e2 with e3 | e3
        · exact absurd (h.lx a b f t q ha hb hf ht e1 e3) c1
        · have := hltx a b q ha hb e1; omega
      · rw [if_neg c2] at e2
        exact h.lx a b a' b' q ha hb ha' hb' e1 e2
end
end Go.Proofs.Ytpmihcefjdeonaa
