/- Walks of layer 6: Tick. -/
import Derived.Test.YtpmihcefjdeonaaNE
namespace Go.Proofs.Ytpmihcefjdeonaa
open Go
set_option maxRecDepth 20000
set_option maxHeartbeats 2000000
attribute [local irreducible] Run Ops Fn Draw Draw2 PureOp StepZ

def Ns.msg (s : Ns) (a : Nat × Nat) (no : Nat) : Pk := ⟨a.1, a.2, false, no, (s.way a).ep, (s.way a).sent.getD (no - 1) []⟩
def Ns.again (s : Ns) (a : Nat × Nat) : Nat → Ns
  | 0 => s
  | m + 1 => (s.again a m).flies (s.msg a ((s.way a).told + m + 1))
def Ns.lag (s : Ns) (a : Nat × Nat) : Nat := (s.way a).sent.length - (s.way a).told
def Ns.tickTo (s : Ns) (i : Nat) : Nat → Ns
  | 0 => s
  | m + 1 => (s.tickTo i m).again (i, m) (s.lag (i, m))
def Ns.tickE (s : Ns) (i : Int) : Int := if s.there i then 0 else 60
def Ns.tick (s : Ns) (i : Int) : Ns := if s.there i then s.tickTo i.toNat s.n else s
theorem flies_way (s : Ns) (p : Pk) : (s.flies p).way = s.way := by unfold Ns.flies; split <;> rfl
theorem again_way (s : Ns) (a : Nat × Nat) (m : Nat) : (s.again a m).way = s.way := by
  induction m with
  | zero => rfl
  | succ m ih => rw [Ns.again, flies_way, ih]
theorem tickTo_way (s : Ns) (i m : Nat) : (s.tickTo i m).way = s.way := by
  induction m with
  | zero => rfl
  | succ m ih => rw [Ns.tickTo, again_way, ih]
theorem tick_any (z : World) (g : PG) (i : Int) (k : Nat) (h : PN z g) (hok : g.abs.Ok k) (hk : k ≤ 4398046511000) : Fn env.P 12 [.pointer (some ⟨g.nb, 0, none⟩), .int .i64 i] z (POp z g (g.abs.tickE i) (g.abs.tick i)) := by
  obtain ⟨cu, cx, fv, a1, a2, a3, _⟩ := h.net
  have hfl : g.fly.length ≤ 4096 := by rw [← fly_len]; exact hok.fly.1
  have H := (Holds.start z []).add false a1 (by simp) (by simp)
  have HF := Try.func12; refine Fn.enter Try.func12 Try.ntmps12 rfl rfl rfl ?_
  refine Run.seq ?_
  (refine Run.region ?_; intro K hK)
  refine Ops.pure H (X.assign rfl) rfl rfl rfl ?_
  (refine Ops.nil (hK _ _ ?_); clear hK K)
  refine Run.seq ?_
  refine Run.seq ?_
  (refine Run.region ?_; intro K hK)
  refine Ops.pure H (X.move rfl) rfl rfl rfl ?_
  refine Ops.pure H (X.move rfl) rfl rfl rfl ?_
  refine Ops.eff rfl (Y.call rfl rfl (by first | assumption | decide +kernel) rfl (there_any _ g i h) rfl ?_)
  rintro v w1 ⟨rfl, rfl⟩
  cases hi : g.abs.there i with
  | false =>
    refine Ops.pure H (X.not rfl) rfl rfl rfl ?_
    (refine Ops.nil (hK _ _ ?_); clear hK K)
    refine Run.cond_true rfl ?_
    refine Run.seq ?_
    (refine Run.region ?_; intro K hK)
    refine Ops.pure H (X.assign rfl) rfl rfl rfl ?_
    (refine Ops.nil (hK _ _ ?_); clear hK K)
    (first | refine Fn.ret1 HF rfl rfl ?_ | refine Fn.ret2 HF rfl rfl rfl ?_ | refine Fn.ret3 HF rfl rfl rfl rfl ?_ | refine Fn.ret0 HF rfl ?_ | refine Fn.fin0 HF rfl ?_ | refine Fn.retG (E := env) HF rfl H (by first | exact RVs.cellN rfl rfl rfl (by first | exact .head | exact .tail .head | exact .tail (.tail .head) | exact .tail (.tail (.tail .head)) | exact .tail (.tail (.tail (.tail .head))) | exact .tail (.tail (.tail (.tail (.tail .head)))) | exact .tail (.tail (.tail (.tail (.tail (.tail .head)))))) (by first | assumption | exact Cs.take rfl) RVs.nil | exact RVs.cellN rfl rfl rfl (by first | exact .head | exact .tail .head | exact .tail (.tail .head) | exact .tail (.tail (.tail .head)) | exact .tail (.tail (.tail (.tail .head))) | exact .tail (.tail (.tail (.tail (.tail .head)))) | exact .tail (.tail (.tail (.tail (.tail (.tail .head)))))) (by first | assumption | exact Cs.take rfl) (RVs.tmp rfl RVs.nil) | exact RVs.cellN rfl rfl rfl (by first | exact .head | exact .tail .head | exact .tail (.tail .head) | exact .tail (.tail (.tail .head)) | exact .tail (.tail (.tail (.tail .head))) | exact .tail (.tail (.tail (.tail (.tail .head)))) | exact .tail (.tail (.tail (.tail (.tail (.tail .head)))))) (by first | assumption | exact Cs.take rfl) (RVs.tmp rfl (RVs.tmp rfl RVs.nil))) rfl ?_)
    exact ⟨by simp [Ns.tickE, hi], g, .rfl' h (Fr.refl _ _), by simp [Ns.tick, hi]⟩
  | true =>
    obtain ⟨i, rfl, hi', _⟩ := there_iff.1 hi
    replace hi' : i < g.n := hi'
    have hE : g.abs.tickE (i : Nat) = 0 := by simp [Ns.tickE, hi]
    have h64 := h.n64
    refine Ops.pure H (X.not rfl) rfl rfl rfl ?_
    (refine Ops.nil (hK _ _ ?_); clear hK K)
    refine Run.cond_false rfl ?_
    refine Run.skip ?_
    refine Run.seq ?_
    refine Run.seq ?_
    (refine Run.region ?_; intro K hK)
    refine Ops.pure H (X.move rfl) rfl rfl rfl ?_
    refine Ops.pure H (X.nilCheck rfl) rfl rfl rfl ?_
    refine Ops.pure H (X.fieldAddr rfl rfl rfl rfl rfl rfl) rfl rfl rfl ?_
    refine Ops.pure H (X.load1 rfl rfl rfl rfl Pick.head rfl) rfl rfl rfl ?_
    refine Ops.pure H (X.len_slice rfl rfl rfl) rfl rfl rfl ?_
    refine Ops.pure H (X.move rfl) rfl rfl rfl ?_
    (refine Ops.nil (hK _ _ ?_); clear hK K)
    refine Run.block ?_
    refine Run.rounds (fun (x : Nat) => [(0, .pointer (some ⟨g.nb, 0, none⟩)), (1, .int .i64 (i : Nat)), (16, .int .i64 (g.n : Nat)), (17, .int .i64 (x : Nat))]) (fun x w' => x ≤ g.n ∧ ∃ g', PStep w1 g w' g' ∧ g'.abs = g.abs.tickTo i x ∧ g'.way = g.way ∧ g'.fly.length ≤ 4096) (fun x => g.n - x) 0 (by repeat (first | exact trivial | refine ⟨rfl, ?_⟩)) ⟨by omega, g, .rfl' h H.fr, rfl, rfl, hfl⟩ ?_
    clear H
    rintro x w2 ⟨hx, g2, st, hab, hwy, hf2⟩ IH
    by_cases hlt : x < g.n
    · obtain ⟨cu2, cx2, fv2, b1, b2, b3, _⟩ := st.ok.net
      rw [st.nb, st.n] at b1
      obtain ⟨es, q, f, m1, m2, m3, m4⟩ := st.ok.mp
      have H := ((Holds.start w2 []).add false m1 (by simp) (by simp)).add false b1 (by simpa using ne_of_map b1 m1) (by simp)
      have hfx := m4 (i, x)
      rw [hwy] at hfx
      cases hc : g.way (i, x) with
      | none =>
        refine Run.seq ?_
        (refine Run.region ?_; intro K hK)
        refine Ops.pure H (X.cmp rfl rfl rfl) rfl rfl rfl ?_
        (refine Ops.nil (hK _ _ ?_); clear hK K)
        refine Run.seq ?_
        refine Run.cond_dec rfl (fun h18 => ?x0) (fun h18 => ?y0)
        case' y0 => exfalso; omega
        case' x0 =>
          refine Run.skip ?_
          refine Run.seq ?_
          refine Run.block ?_
          refine Run.seq ?_
          (refine Run.region ?_; intro K hK)
          refine Ops.pure H (X.move rfl) rfl rfl rfl ?_
          refine Ops.pure H (X.assign rfl) rfl rfl rfl ?_
          (refine Ops.nil (hK _ _ ?_); clear hK K)
          refine Run.seq ?_
          (refine Run.region ?_; intro K hK)
          refine Ops.pure H (X.move rfl) rfl rfl rfl ?_
          refine Ops.pure H (X.nilCheck rfl) rfl rfl rfl ?_
          refine Ops.pure H (X.fieldAddr rfl rfl rfl rfl rfl rfl) rfl rfl rfl ?_
          refine Ops.pure H (X.load1 rfl rfl rfl rfl Pick.head rfl) rfl rfl rfl ?_
          refine Ops.pure H (X.move rfl) rfl rfl rfl ?_
          refine Ops.pure H (X.move rfl) rfl rfl rfl ?_
          refine Ops.pure H (X.buildO rfl rfl rfl rfl rfl rfl) rfl rfl rfl ?_
        refine Ops.pure H (X.lookupK (i := (i, x)) (v := .pointer none) lkOk m2 (by first | exact .head | exact .tail .head | exact .tail (.tail .head) | exact .tail (.tail (.tail .head)) | exact .tail (.tail (.tail (.tail .head))) | exact .tail (.tail (.tail (.tail (.tail .head)))) | exact .tail (.tail (.tail (.tail (.tail (.tail .head)))))) rfl rfl rfl rfl rfl (by rw [hfx, hc]; rfl)) rfl rfl rfl ?_
        refine Ops.pure H (X.assign rfl) rfl rfl rfl ?_
        (refine Ops.nil (hK _ _ ?_); clear hK K)
        refine Run.seq ?_
        (refine Run.region ?_; intro K hK)
        refine Ops.pure H (X.move rfl) rfl rfl rfl ?_
        refine Ops.pure H (X.ptrNil rfl rfl rfl rfl rfl) rfl rfl rfl ?_
        (refine Ops.nil (hK _ _ ?_); clear hK K)
        refine Run.cond_false rfl ?_
        refine Run.skip ?_
        refine Run.inBlock ?_
        (refine Run.region ?_; intro K hK)
        refine Ops.pure H (X.succ rfl rfl (by omega)) rfl rfl rfl ?_
        refine Ops.pure H (X.move rfl) rfl rfl rfl ?_
        (refine Ops.nil (hK _ _ ?_); clear hK K)
        refine (IH (x + 1) _ (by omega) ⟨by omega, g2, st.ext H.fr, ?_, hwy, hf2⟩).weak (by repeat (first | exact trivial | refine ⟨rfl, ?_⟩))
        have : g.abs.lag (i, x) = 0 := by simp [Ns.lag, abs_way, hc, absW, wy0]
        rw [hab, Ns.tickTo, this]
        rfl
      | some c =>
        have hc2 : g2.way (i, x) = some c := by rw [hwy]; exact hc
        have hW : g.abs.way (i, x) = ⟨c.ep, c.ss.map (·.1), c.told, c.came⟩ := by rw [abs_way, hc]; rfl
        have hb := hok.way (i, x)
        rw [hW] at hb
        simp only [List.length_map] at hb
        have hlag : g.abs.lag (i, x) = c.ss.length - c.told := by simp [Ns.lag, hW]
        obtain ⟨sv, c1, c2⟩ := st.ok.wayr _ _ hc2
        obtain ⟨sa, sc, rfl, _⟩ := c2.slice
        replace H := H.add false c1 (by simpa using ⟨fun e => by rw [e, b1] at c1; simp at c1, ne_of_map c1 m1⟩) (by simp)
        refine Run.seq ?_
        (refine Run.region ?_; intro K hK)
        refine Ops.pure H (X.cmp rfl rfl rfl) rfl rfl rfl ?_
        (refine Ops.nil (hK _ _ ?_); clear hK K)
        refine Run.seq ?_
        refine Run.cond_dec rfl (fun h18 => ?x1) (fun h18 => ?y1)
        case' y1 => exfalso; omega
        case' x1 =>
          refine Run.skip ?_
          refine Run.seq ?_
          refine Run.block ?_
          refine Run.seq ?_
          (refine Run.region ?_; intro K hK)
          refine Ops.pure H (X.move rfl) rfl rfl rfl ?_
          refine Ops.pure H (X.assign rfl) rfl rfl rfl ?_
          (refine Ops.nil (hK _ _ ?_); clear hK K)
          refine Run.seq ?_
          (refine Run.region ?_; intro K hK)
          refine Ops.pure H (X.move rfl) rfl rfl rfl ?_
          refine Ops.pure H (X.nilCheck rfl) rfl rfl rfl ?_
          refine Ops.pure H (X.fieldAddr rfl rfl rfl rfl rfl rfl) rfl rfl rfl ?_
          refine Ops.pure H (X.load1 rfl rfl rfl rfl (.tail .head) rfl) rfl rfl rfl ?_
          refine Ops.pure H (X.move rfl) rfl rfl rfl ?_
          refine Ops.pure H (X.move rfl) rfl rfl rfl ?_
          refine Ops.pure H (X.buildO rfl rfl rfl rfl rfl rfl) rfl rfl rfl ?_
        refine Ops.pure H (X.lookupK (i := (i, x)) (v := .pointer (some ⟨c.wb, 0, none⟩)) lkOk m2 (by first | exact .head | exact .tail .head | exact .tail (.tail .head) | exact .tail (.tail (.tail .head)) | exact .tail (.tail (.tail (.tail .head))) | exact .tail (.tail (.tail (.tail (.tail .head)))) | exact .tail (.tail (.tail (.tail (.tail (.tail .head)))))) rfl rfl rfl rfl rfl (by rw [hfx, hc]; rfl)) rfl rfl rfl ?_
        have hcast : ((c.told : Nat) : Int) + 1 = ((c.told + 1 + 0 : Nat) : Int) := by omega
        refine Ops.pure H (X.assign rfl) rfl rfl rfl ?_
        (refine Ops.nil (hK _ _ ?_); clear hK K)
        refine Run.seq ?_
        (refine Run.region ?_; intro K hK)
        refine Ops.pure H (X.move rfl) rfl rfl rfl ?_
        refine Ops.pure H (X.ptrNil rfl rfl rfl rfl rfl) rfl rfl rfl ?_
        (refine Ops.nil (hK _ _ ?_); clear hK K)
        refine Run.cond_true rfl ?_
        refine Run.seq ?_
        (refine Run.region ?_; intro K hK)
        refine Ops.pure H (X.move rfl) rfl rfl rfl ?_
        refine Ops.pure H (X.nilCheck rfl) rfl rfl rfl ?_
        refine Ops.pure H (X.fieldAddr rfl rfl rfl rfl rfl rfl) rfl rfl rfl ?_
        refine Ops.pure H (X.load1 rfl rfl rfl rfl Pick.head rfl) rfl rfl rfl ?_
        refine Ops.pure H (X.succ rfl rfl (by omega)) rfl rfl rfl ?_
        refine Ops.pure H (X.assign rfl) rfl rfl rfl ?_
        (refine Ops.nil (hK _ _ ?_); clear hK K)
        refine Run.block ?_
        refine Run.rounds (fun (y : Nat) => [(0, .pointer (some ⟨g.nb, 0, none⟩)), (1, .int .i64 (i : Nat)), (16, .int .i64 (g.n : Nat)), (17, .int .i64 (x : Nat)), (5, .int .i64 (x : Nat)), (6, .pointer (some ⟨c.wb, 0, none⟩)), (7, .int .i64 ((c.told + 1 + y : Nat) : Nat))]) (fun y w' => y ≤ c.ss.length - c.told ∧ ∃ g', PStep w1 g w' g' ∧ g'.abs = (g.abs.tickTo i x).again (i, x) y ∧ g'.way = g.way ∧ g'.fly.length ≤ 4096) (fun y => c.ss.length - c.told - y) 0 (by repeat (first | exact trivial | refine ⟨rfl, ?_⟩)) ⟨by omega, g2, st.ext H.fr, hab, hwy, hf2⟩ ?_
        clear H
        rintro y w3 ⟨hy, g3, st3, hab3, hwy3, hf3⟩ IH2
        have hc3 : g3.way (i, x) = some c := by rw [hwy3]; exact hc
        obtain ⟨sv3, c13, c23⟩ := st3.ok.wayr _ _ hc3
        have hwa := st3.ok.wayr _ _ hc3
        have hwb := st3.ok.wayb _ _ hc3
        obtain ⟨sa3, sc3, rfl, _⟩ := c23.slice
        have H := (Holds.start w3 []).add false c13 (by simp) (by simp)
        by_cases hyl : y < c.ss.length - c.told
        · refine Run.seq ?_
          refine Run.seq ?_
          (refine Run.region ?_; intro K hK)
          refine Ops.pure H (X.move rfl) rfl rfl rfl ?_
          refine Ops.pure H (X.move rfl) rfl rfl rfl ?_
          refine Ops.pure H (X.nilCheck rfl) rfl rfl rfl ?_
          refine Ops.pure H (X.fieldAddr rfl rfl rfl rfl rfl rfl) rfl rfl rfl ?_
          refine Ops.pure H (X.load1 rfl rfl rfl rfl Pick.head rfl) rfl rfl rfl ?_
          refine Ops.pure H (X.len_slice rfl rfl rfl) rfl rfl rfl ?_
          refine Ops.pure H (X.cmp rfl rfl rfl) rfl rfl rfl ?_
          (refine Ops.nil (hK _ _ ?_); clear hK K)
          refine Run.cond_dec rfl (fun h41 => ?x2) (fun h41 => ?y2)
          case' y2 => exfalso; omega
          case' x2 =>
            refine Run.skip ?_
            refine Run.seq ?_
            refine Run.block ?_
            (refine Run.region ?_; intro K hK)
            refine Ops.pure H (X.move rfl) rfl rfl rfl ?_
            refine Ops.pure H (X.move rfl) rfl rfl rfl ?_
            refine Ops.pure H (X.move rfl) rfl rfl rfl ?_
            refine Ops.pure H (X.move rfl) rfl rfl rfl ?_
            refine Ops.pure H (X.move rfl) rfl rfl rfl ?_
          refine Ops.eff rfl (Y.call rfl rfl (by first | assumption | decide +kernel) rfl (packet_any _ c i x (c.told + 1 + y) (hwa.keep H.fr (by simp) (by simp)) (by omega) (by omega) (by omega) (fun p hp => (hwb p hp).ext H.fr)) rfl ?_)
          rintro v5 w5 ⟨⟨bs, pv⟩, hp, hpi, rfl, hf5⟩
          replace H := H.ext hf5
          have hBp := (hwb _ hp).ext H.fr
          dsimp only at hBp
          have hbl := hb.2.2.2.2 bs (List.mem_map.2 ⟨_, hp, rfl⟩)
          obtain ⟨pa, pc, rfl⟩ := hBp.slice
          unfold pkC
          skip
          refine Ops.eff rfl (Y.call rfl rfl (by first | assumption | decide +kernel) rfl (flies_at _ g3 ⟨i, x, false, c.told + 1 + y, c.ep, bs⟩ (.slice pa bs.length pc) st3.nb (st3.ok.ext H.fr) hBp (by dsimp only; omega) hf3) rfl ?_)
          rintro v6 w6 ⟨g4, st4, hab4, hwy4, _, hf4, _⟩
          replace st4 := st3.trans (.pre st3.ok H.fr st4)
          clear H
          have H := Holds.start w6 []
          (refine Ops.nil (hK _ _ ?_); clear hK K)
          refine Run.inBlock ?_
          (refine Run.region ?_; intro K hK)
          refine Ops.pure H (X.move rfl) rfl rfl rfl ?_
          refine Ops.pure H (X.succ rfl rfl (by omega)) rfl rfl rfl ?_
          refine Ops.pure H (X.assign rfl) rfl rfl rfl ?_
          (refine Ops.nil (hK _ _ ?_); clear hK K)
          refine (IH2 (y + 1) _ (by omega) ⟨by omega, g4, st4.ext H.fr, ?_, hwy4.trans hwy3, hf4⟩).weak (by repeat (first | exact trivial | refine ⟨rfl, ?_⟩))
          rw [hab4, hab3, Ns.again]
          congr 1
          unfold Ns.msg
          rw [tickTo_way, hW]
          have e1 : c.told + 1 + y = c.told + y + 1 := by omega
          rw [e1] at hpi ⊢
          simp only [Nat.add_sub_cancel] at hpi ⊢
          simp [List.getD_eq_getElem?_getD, hpi]
        · refine Run.seq ?_
          refine Run.seq ?_
          (refine Run.region ?_; intro K hK)
          refine Ops.pure H (X.move rfl) rfl rfl rfl ?_
          refine Ops.pure H (X.move rfl) rfl rfl rfl ?_
          refine Ops.pure H (X.nilCheck rfl) rfl rfl rfl ?_
          refine Ops.pure H (X.fieldAddr rfl rfl rfl rfl rfl rfl) rfl rfl rfl ?_
          refine Ops.pure H (X.load1 rfl rfl rfl rfl Pick.head rfl) rfl rfl rfl ?_
          refine Ops.pure H (X.len_slice rfl rfl rfl) rfl rfl rfl ?_
          refine Ops.pure H (X.cmp rfl rfl rfl) rfl rfl rfl ?_
          (refine Ops.nil (hK _ _ ?_); clear hK K)
          refine Run.cond_dec rfl (fun h41 => ?x3) (fun h41 => ?y3)
          case' y3 =>
            refine Run.exit rfl ?_
            refine Run.inBlock ?_
            (refine Run.region ?_; intro K hK)
            refine Ops.pure H (X.succ rfl rfl (by omega)) rfl rfl rfl ?_
            refine Ops.pure H (X.move rfl) rfl rfl rfl ?_
            (refine Ops.nil (hK _ _ ?_); clear hK K)
          case' x3 => exfalso; omega
          refine (IH (x + 1) _ (by omega) ⟨by omega, g3, st3.ext H.fr, ?_, hwy3, hf3⟩).weak (by repeat (first | exact trivial | refine ⟨rfl, ?_⟩))
          rw [hab3, Ns.tickTo, hlag]
          congr 1
          omega
    · have H := Holds.start w2 []
      refine Run.seq ?_
      (refine Run.region ?_; intro K hK)
      refine Ops.pure H (X.cmp rfl rfl rfl) rfl rfl rfl ?_
      (refine Ops.nil (hK _ _ ?_); clear hK K)
      refine Run.seq ?_
      refine Run.cond_dec rfl (fun h18 => ?x4) (fun h18 => ?y4)
      case' y4 =>
        refine Run.exit rfl ?_
        refine Run.seq ?_
        (refine Run.region ?_; intro K hK)
        refine Ops.pure H (X.assign rfl) rfl rfl rfl ?_
        (refine Ops.nil (hK _ _ ?_); clear hK K)
      case' x4 => exfalso; omega
      (first | refine Fn.ret1 HF rfl rfl ?_ | refine Fn.ret2 HF rfl rfl rfl ?_ | refine Fn.ret3 HF rfl rfl rfl rfl ?_ | refine Fn.ret0 HF rfl ?_ | refine Fn.fin0 HF rfl ?_ | refine Fn.retG (E := env) HF rfl H (by first | exact RVs.cellN rfl rfl rfl (by first | exact .head | exact .tail .head | exact .tail (.tail .head) | exact .tail (.tail (.tail .head)) | exact .tail (.tail (.tail (.tail .head))) | exact .tail (.tail (.tail (.tail (.tail .head)))) | exact .tail (.tail (.tail (.tail (.tail (.tail .head)))))) (by first | assumption | exact Cs.take rfl) RVs.nil | exact RVs.cellN rfl rfl rfl (by first | exact .head | exact .tail .head | exact .tail (.tail .head) | exact .tail (.tail (.tail .head)) | exact .tail (.tail (.tail (.tail .head))) | exact .tail (.tail (.tail (.tail (.tail .head)))) | exact .tail (.tail (.tail (.tail (.tail (.tail .head)))))) (by first | assumption | exact Cs.take rfl) (RVs.tmp rfl RVs.nil) | exact RVs.cellN rfl rfl rfl (by first | exact .head | exact .tail .head | exact .tail (.tail .head) | exact .tail (.tail (.tail .head)) | exact .tail (.tail (.tail (.tail .head))) | exact .tail (.tail (.tail (.tail (.tail .head)))) | exact .tail (.tail (.tail (.tail (.tail (.tail .head)))))) (by first | assumption | exact Cs.take rfl) (RVs.tmp rfl (RVs.tmp rfl RVs.nil))) rfl ?_)
      refine ⟨by rw [hE], g2, st.ext H.fr, ?_⟩
      obtain rfl : x = g.n := by omega
      rw [hab, Ns.tick, if_pos hi]
      rfl
end Go.Proofs.Ytpmihcefjdeonaa
