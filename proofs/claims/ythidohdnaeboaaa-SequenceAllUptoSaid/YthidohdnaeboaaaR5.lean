/- Walks: the reference's Submit. -/
import Derived.Test.YthidohdnaeboaaaR4
import Derived.Test.YthidohdnaeboaaaEngH
namespace Go.Proofs.Ythidohdnaeboaaa
open Go
set_option maxRecDepth 20000
set_option maxHeartbeats 2000000
attribute [local irreducible] Run Ops Fn Draw Draw2 PureOp StepZ

/-- The reference's answer, and the state behind it. -/
def RSubPost (w : World) (d c : Nat) (n : Int) (r : Int × Int × Int × List Tk) (v : Value) (w' : World) : Prop :=
  v = .tuple #[.int .u64 r.1, .int .i64 r.2.1] ∧ Fr w w' [d] ∧ ∃ c', ROrd w' d c' n r.2.2.1 r.2.2.2 ∧ (c' = c ∨ w.heap.size ≤ c')
theorem rsub_fail {w w' : World} {d c : Nat} {n last client seq e : Int} {xs : List Int} {l : List Tk} (h : ROrd w d c n last l) (hf : Fr w w' []) (hr : subOut n last client seq xs l = (0, e, last, l)) : RSubPost w d c n (subOut n last client seq xs l) (.tuple #[.int .u64 0, .int .i64 e]) w' := by
  rw [hr]
  exact ⟨rfl, hf.mono (by simp), c, h.ext hf, .inl rfl⟩
theorem rsubmit_any (z : World) (d c : Nat) (n last client seq : Int) (l : List Tk) (V : Value) (xs : List Int) (h : ROrd z d c n last l) (hV : Ints z V xs) (hxd : 0 < xs.length → ∀ b off m cap, V = .slice (some ⟨b, off, none⟩) m cap → b ≠ d) (hn : n ≤ 64) (h0 : 0 ≤ last) (hu : last ≤ 18446744073709551615) (hl : l.length ≤ 4096) :
    Fn env.P 36 [.pointer (some ⟨d, 0, none⟩), .int .u64 client, .int .u64 seq, V] z (RSubPost z d c n (subOut n last client seq xs l)) := by
  have h' := h
  obtain ⟨v, ho, a, cap, cs, rfl, hc1, hc2, hac, hall⟩ := h
  have H := (Holds.start z []).add false ho (by simp) (by simp)
  have HF := Try.func36; refine Fn.enter Try.func36 Try.ntmps36 rfl rfl rfl ?_
  refine Run.seq ?_
  (refine Run.region ?_; intro K hK)
  refine Ops.pure H (X.assign rfl) rfl rfl rfl ?_
  refine Ops.pure H (X.assign rfl) rfl rfl rfl ?_
  (refine Ops.nil (hK _ _ ?_); clear hK K)
  refine Run.seq ?_
  refine Run.seq ?_
  (refine Run.region ?_; intro K hK)
  refine Ops.pure H (X.move rfl) rfl rfl rfl ?_
  refine Ops.pure H (X.cmp rfl rfl rfl) rfl rfl rfl ?_
  refine Ops.pure H (X.move rfl) rfl rfl rfl ?_
  refine Ops.split_dec rfl rfl (fun h14 => ?x0) (fun h14 => ?y0)
  case' y0 =>
    refine Ops.pure H (X.move rfl) rfl rfl rfl ?_
    refine Ops.pure H (X.move rfl) rfl rfl rfl ?_
  case' x0 =>
    refine Ops.pass rfl rfl rfl ?_
    refine Ops.pass rfl rfl rfl ?_
    refine Ops.pass rfl rfl rfl ?_
    refine Ops.pass rfl rfl rfl ?_
    refine Ops.pure H (X.pick_t rfl rfl) rfl rfl rfl ?_
    (refine Ops.nil (hK _ _ ?_); clear hK K)
    refine Run.cond_true rfl ?_
    refine Run.seq ?_
    (refine Run.region ?_; intro K hK)
    refine Ops.pure H (X.assign rfl) rfl rfl rfl ?_
    refine Ops.pure H (X.assign rfl) rfl rfl rfl ?_
    (refine Ops.nil (hK _ _ ?_); clear hK K)
  · (first | refine Fn.ret1 HF rfl rfl ?_ | refine Fn.ret2 HF rfl rfl rfl ?_ | refine Fn.ret3 HF rfl rfl rfl rfl ?_ | refine Fn.ret0 HF rfl ?_ | refine Fn.fin0 HF rfl ?_ | refine Fn.retG (E := env) HF rfl H (by first | exact RVs.cellN rfl rfl rfl (by first | exact .head | exact .tail .head | exact .tail (.tail .head) | exact .tail (.tail (.tail .head)) | exact .tail (.tail (.tail (.tail .head))) | exact .tail (.tail (.tail (.tail (.tail .head)))) | exact .tail (.tail (.tail (.tail (.tail (.tail .head)))))) (by first | assumption | exact Cs.take rfl) RVs.nil | exact RVs.cellN rfl rfl rfl (by first | exact .head | exact .tail .head | exact .tail (.tail .head) | exact .tail (.tail (.tail .head)) | exact .tail (.tail (.tail (.tail .head))) | exact .tail (.tail (.tail (.tail (.tail .head)))) | exact .tail (.tail (.tail (.tail (.tail (.tail .head)))))) (by first | assumption | exact Cs.take rfl) (RVs.tmp rfl RVs.nil)) rfl ?_)
    exact rsub_fail h' H.fr (by unfold subOut; rw [if_pos (.inl (by assumption))])
  refine Ops.eff rfl (Y.call rfl rfl (by first | assumption | decide +kernel) rfl (can_any _ d c n last l V xs h' hV hxd) rfl ?_)
  rintro v w1 ⟨rfl, hf1⟩
  replace H := H.ext hf1
  by_cases hcan : canL n xs
  · rw [decide_eq_true hcan]
    have hno : ¬ (seq = 0 ∨ ¬ canL n xs) := fun h => h.elim (by assumption) (fun h => h hcan)
    refine Ops.pure H (X.not rfl) rfl rfl rfl ?_
    refine Ops.pure H (X.pick_f rfl rfl) rfl rfl rfl ?_
    (refine Ops.nil (hK _ _ ?_); clear hK K)
    refine Run.cond_false rfl ?_
    refine Run.skip ?_
    refine Run.seq ?_
    refine Run.seq ?_
    (refine Run.region ?_; intro K hK)
    refine Ops.pure H (X.assign rfl) rfl rfl rfl ?_
    (refine Ops.nil (hK _ _ ?_); clear hK K)
    refine Run.block ?_
    refine Run.rounds (fun (x : Nat) => [(0, .pointer (some ⟨d, 0, none⟩)), (1, .int .u64 client), (2, .int .u64 seq), (3, V), (10, .int .i64 (x : Nat))]) (fun x w' => w' = w1 ∧ ∀ j, j < x → decide ((l.getD j tk0).client = client ∧ (l.getD j tk0).seq = seq) = false) (fun x => l.length - x) 0 (by repeat (first | exact trivial | refine ⟨rfl, ?_⟩)) ⟨rfl, by intro j hj; omega⟩ ?_
    rintro x _ ⟨rfl, hx⟩ IH
    by_cases hlt : x < l.length
    · obtain ⟨rfl, hcc⟩ := tks_pos hac hc1 (Fr.refl _ _) (by omega)
      replace H := H.add false (hf1.get hcc (by simp)) (by simpa using ne_of_ty hcc ho (by decide)) (by simp)
      obtain ⟨vk, bk, hcs, _, _, _, _⟩ := (hall x _ (some_at hlt)).get
      have hk1 : cs[0 + x * 4 + 1]? = some (.int .u64 (l.getD x tk0).client) := hcs.get 1 _ rfl
      have hk2 : cs[0 + x * 4 + 2]? = some (.int .u64 (l.getD x tk0).seq) := hcs.get 2 _ rfl
      refine Run.seq ?_
      refine Run.seq ?_
      (refine Run.region ?_; intro K hK)
      refine Ops.pure H (X.move rfl) rfl rfl rfl ?_
      refine Ops.pure H (X.move rfl) rfl rfl rfl ?_
      refine Ops.pure H (X.nilCheck rfl) rfl rfl rfl ?_
      refine Ops.pure H (X.fieldAddr rfl rfl rfl rfl rfl rfl) rfl rfl rfl ?_
      refine Ops.pure H (X.load1 rfl rfl rfl rfl (.tail .head) rfl) rfl rfl rfl ?_
      refine Ops.pure H (X.len_slice rfl rfl rfl) rfl rfl rfl ?_
      refine Ops.pure H (X.cmp rfl rfl rfl) rfl rfl rfl ?_
      (refine Ops.nil (hK _ _ ?_); clear hK K)
      refine Run.cond_dec rfl (fun h25 => ?x1) (fun h25 => ?y1)
      case' y1 => exfalso; omega
      case' x1 =>
        refine Run.skip ?_
        refine Run.seq ?_
        refine Run.block ?_
        refine Run.seq ?_
        (refine Run.region ?_; intro K hK)
        refine Ops.pure H (X.move rfl) rfl rfl rfl ?_
        refine Ops.pure H (X.nilCheck rfl) rfl rfl rfl ?_
        refine Ops.pure H (X.fieldAddr rfl rfl rfl rfl rfl rfl) rfl rfl rfl ?_
        refine Ops.pure H (X.load1 rfl rfl rfl rfl (.tail .head) rfl) rfl rfl rfl ?_
        refine Ops.pure H (X.move rfl) rfl rfl rfl ?_
        refine Ops.pure H (X.indexAddr rfl rfl (by omega) rfl rfl rfl rfl) rfl rfl rfl ?_
        refine Ops.pure H (X.fieldAddr rfl rfl rfl rfl rfl rfl) rfl rfl rfl ?_
        refine Ops.pure H (X.load1 rfl rfl rfl rfl Pick.head (by assumption)) rfl rfl rfl ?_
        refine Ops.pure H (X.move rfl) rfl rfl rfl ?_
        refine Ops.pure H (X.cmp rfl rfl rfl) rfl rfl rfl ?_
        refine Ops.pure H (X.move rfl) rfl rfl rfl ?_
        refine Ops.split_dec rfl rfl (fun h39 => ?x2) (fun h39 => ?y2)
        case' y2 =>
          refine Ops.pass rfl rfl rfl ?_
          refine Ops.pass rfl rfl rfl ?_
          refine Ops.pass rfl rfl rfl ?_
          refine Ops.pass rfl rfl rfl ?_
          refine Ops.pass rfl rfl rfl ?_
          refine Ops.pass rfl rfl rfl ?_
          refine Ops.pass rfl rfl rfl ?_
          refine Ops.pass rfl rfl rfl ?_
          refine Ops.pass rfl rfl rfl ?_
          refine Ops.pass rfl rfl rfl ?_
          refine Ops.pure H (X.pick_f rfl rfl) rfl rfl rfl ?_
          (refine Ops.nil (hK _ _ ?_); clear hK K)
          refine Run.cond_false rfl ?_
          refine Run.skip ?_
          refine Run.inBlock ?_
          (refine Run.region ?_; intro K hK)
          refine Ops.pure H (X.move rfl) rfl rfl rfl ?_
          refine Ops.pure H (X.succ rfl rfl (by omega)) rfl rfl rfl ?_
          refine Ops.pure H (X.assign rfl) rfl rfl rfl ?_
          (refine Ops.nil (hK _ _ ?_); clear hK K)
        case' x2 =>
          refine Ops.pure H (X.move rfl) rfl rfl rfl ?_
          refine Ops.pure H (X.nilCheck rfl) rfl rfl rfl ?_
          refine Ops.pure H (X.fieldAddr rfl rfl rfl rfl rfl rfl) rfl rfl rfl ?_
          refine Ops.pure H (X.load1 rfl rfl rfl rfl (.tail .head) rfl) rfl rfl rfl ?_
          refine Ops.pure H (X.move rfl) rfl rfl rfl ?_
          refine Ops.pure H (X.indexAddr rfl rfl (by omega) rfl rfl rfl rfl) rfl rfl rfl ?_
          refine Ops.pure H (X.fieldAddr rfl rfl rfl rfl rfl rfl) rfl rfl rfl ?_
          refine Ops.pure H (X.load1 rfl rfl rfl rfl Pick.head (by assumption)) rfl rfl rfl ?_
          refine Ops.pure H (X.move rfl) rfl rfl rfl ?_
          refine Ops.pure H (X.cmp rfl rfl rfl) rfl rfl rfl ?_
          refine Ops.pure H (X.pick_t rfl rfl) rfl rfl rfl ?_
          (refine Ops.nil (hK _ _ ?_); clear hK K)
          refine Run.cond_dec rfl (fun h49 => ?x3) (fun h49 => ?y3)
          case' y3 =>
            refine Run.skip ?_
            refine Run.inBlock ?_
            (refine Run.region ?_; intro K hK)
            refine Ops.pure H (X.move rfl) rfl rfl rfl ?_
            refine Ops.pure H (X.succ rfl rfl (by omega)) rfl rfl rfl ?_
            refine Ops.pure H (X.assign rfl) rfl rfl rfl ?_
            (refine Ops.nil (hK _ _ ?_); clear hK K)
          case' x3 =>
            refine Run.seq ?_
            (refine Run.region ?_; intro K hK)
            refine Ops.pure H (X.assign rfl) rfl rfl rfl ?_
            refine Ops.pure H (X.assign rfl) rfl rfl rfl ?_
            (refine Ops.nil (hK _ _ ?_); clear hK K)
      · (first | refine Fn.ret1 HF rfl rfl ?_ | refine Fn.ret2 HF rfl rfl rfl ?_ | refine Fn.ret3 HF rfl rfl rfl rfl ?_ | refine Fn.ret0 HF rfl ?_ | refine Fn.fin0 HF rfl ?_ | refine Fn.retG (E := env) HF rfl H (by first | exact RVs.cellN rfl rfl rfl (by first | exact .head | exact .tail .head | exact .tail (.tail .head) | exact .tail (.tail (.tail .head)) | exact .tail (.tail (.tail (.tail .head))) | exact .tail (.tail (.tail (.tail (.tail .head)))) | exact .tail (.tail (.tail (.tail (.tail (.tail .head)))))) (by first | assumption | exact Cs.take rfl) RVs.nil | exact RVs.cellN rfl rfl rfl (by first | exact .head | exact .tail .head | exact .tail (.tail .head) | exact .tail (.tail (.tail .head)) | exact .tail (.tail (.tail (.tail .head))) | exact .tail (.tail (.tail (.tail (.tail .head)))) | exact .tail (.tail (.tail (.tail (.tail (.tail .head)))))) (by first | assumption | exact Cs.take rfl) (RVs.tmp rfl RVs.nil)) rfl ?_)
        have hex : ∃ i, i < l.length ∧ (decide ((l.getD i tk0).client = client ∧ (l.getD i tk0).seq = seq)) = true := ⟨x, hlt, decide_eq_true ⟨by assumption, by assumption⟩⟩
        exact rsub_fail h' H.fr (by unfold subOut; rw [if_neg hno, if_pos hex])
      · refine (IH (x + 1) _ (by omega) ⟨rfl, fun j hj => ?_⟩).weak (by repeat (first | exact trivial | refine ⟨rfl, ?_⟩))
        rcases Nat.lt_succ_iff_lt_or_eq.1 hj with h | rfl
        · exact hx j h
        · exact decide_eq_false (fun hc => by have := hc.2; contradiction)
      · refine (IH (x + 1) _ (by omega) ⟨rfl, fun j hj => ?_⟩).weak (by repeat (first | exact trivial | refine ⟨rfl, ?_⟩))
        rcases Nat.lt_succ_iff_lt_or_eq.1 hj with h | rfl
        · exact hx j h
        · exact decide_eq_false (fun hc => by have := hc.1; contradiction)
    · have hex : ¬ ∃ i, i < l.length ∧ (decide ((l.getD i tk0).client = client ∧ (l.getD i tk0).seq = seq)) = true := by
        rintro ⟨j, hj, e⟩
        rw [hx j (by omega)] at e
        cases e
      refine Run.seq ?_
      refine Run.seq ?_
      (refine Run.region ?_; intro K hK)
      refine Ops.pure H (X.move rfl) rfl rfl rfl ?_
      refine Ops.pure H (X.move rfl) rfl rfl rfl ?_
      refine Ops.pure H (X.nilCheck rfl) rfl rfl rfl ?_
      refine Ops.pure H (X.fieldAddr rfl rfl rfl rfl rfl rfl) rfl rfl rfl ?_
      refine Ops.pure H (X.load1 rfl rfl rfl rfl Pick.head rfl) rfl rfl rfl ?_
      refine Ops.pure H (X.len_slice rfl rfl rfl) rfl rfl rfl ?_
      refine Ops.pure H (X.cmp rfl rfl rfl) rfl rfl rfl ?_
      (refine Ops.nil (hK _ _ ?_); clear hK K)
      refine Run.cond_dec rfl (fun h25 => ?x4) (fun h25 => ?y4)
      case' y4 =>
        refine Run.exit rfl ?_
        refine Run.seq ?_
        refine Run.block ?_
        refine Run.seq ?_
        (refine Run.region ?_; intro K hK)
        refine Ops.pure H (X.move rfl) rfl rfl rfl ?_
        refine Ops.pure H (X.nilCheck rfl) rfl rfl rfl ?_
        refine Ops.pure H (X.fieldAddr rfl rfl rfl rfl rfl rfl) rfl rfl rfl ?_
        refine Ops.pure H (X.load1 rfl rfl rfl rfl Pick.head rfl) rfl rfl rfl ?_
        refine Ops.pure H (X.len_slice rfl rfl rfl) rfl rfl rfl ?_
        refine Ops.pure H (X.cmp rfl rfl rfl) rfl rfl rfl ?_
        refine Ops.pure H (X.assign rfl) rfl rfl rfl ?_
        (refine Ops.nil (hK _ _ ?_); clear hK K)
        refine Run.cond_dec rfl (fun h50 => ?x5) (fun h50 => ?y5)
        case' y5 =>
          refine Run.seq ?_
          (refine Run.region ?_; intro K hK)
          refine Ops.pure H (X.move rfl) rfl rfl rfl ?_
          refine Ops.pure H (X.nilCheck rfl) rfl rfl rfl ?_
          refine Ops.pure H (X.fieldAddr rfl rfl rfl rfl rfl rfl) rfl rfl rfl ?_
          refine Ops.pure H (X.load1 rfl rfl rfl rfl Pick.head rfl) rfl rfl rfl ?_
          refine Ops.pure H (X.cmp rfl rfl rfl) rfl rfl rfl ?_
          refine Ops.pure H (X.assign rfl) rfl rfl rfl ?_
          (refine Ops.nil (hK _ _ ?_); clear hK K)
          refine Run.cond_dec rfl (fun h57 => ?x6) (fun h57 => ?y6)
          case' y6 =>
            refine Run.skip ?_
            refine Run.inBlock ?_
            refine Run.seq ?_
            (refine Run.region ?_; intro K hK)
            refine Ops.pure H (X.move rfl) rfl rfl rfl ?_
            refine Ops.pure H (X.nilCheck rfl) rfl rfl rfl ?_
            refine Ops.pure H (X.fieldAddr rfl rfl rfl rfl rfl rfl) rfl rfl rfl ?_
            refine Ops.pure H (X.load1 rfl rfl rfl rfl Pick.head rfl) rfl rfl rfl ?_
            refine Ops.pure H (X.add_in rfl rfl (u64_in _ (by omega))) rfl rfl rfl ?_
            refine Ops.pure H (X.nilCheck rfl) rfl rfl rfl ?_
            refine Ops.pure H (X.fieldAddr rfl rfl rfl rfl rfl rfl) rfl rfl rfl ?_
          case' x6 =>
            refine Run.seq ?_
            (refine Run.region ?_; intro K hK)
            refine Ops.pure H (X.assign rfl) rfl rfl rfl ?_
            refine Ops.pure H (X.assign rfl) rfl rfl rfl ?_
            (refine Ops.nil (hK _ _ ?_); clear hK K)
        case' x5 =>
          refine Run.seq ?_
          (refine Run.region ?_; intro K hK)
          refine Ops.pure H (X.assign rfl) rfl rfl rfl ?_
          refine Ops.pure H (X.assign rfl) rfl rfl rfl ?_
          (refine Ops.nil (hK _ _ ?_); clear hK K)
      case' x4 => exfalso; omega
      · (first | refine Fn.ret1 HF rfl rfl ?_ | refine Fn.ret2 HF rfl rfl rfl ?_ | refine Fn.ret3 HF rfl rfl rfl rfl ?_ | refine Fn.ret0 HF rfl ?_ | refine Fn.fin0 HF rfl ?_ | refine Fn.retG (E := env) HF rfl H (by first | exact RVs.cellN rfl rfl rfl (by first | exact .head | exact .tail .head | exact .tail (.tail .head) | exact .tail (.tail (.tail .head)) | exact .tail (.tail (.tail (.tail .head))) | exact .tail (.tail (.tail (.tail (.tail .head)))) | exact .tail (.tail (.tail (.tail (.tail (.tail .head)))))) (by first | assumption | exact Cs.take rfl) RVs.nil | exact RVs.cellN rfl rfl rfl (by first | exact .head | exact .tail .head | exact .tail (.tail .head) | exact .tail (.tail (.tail .head)) | exact .tail (.tail (.tail (.tail .head))) | exact .tail (.tail (.tail (.tail (.tail .head)))) | exact .tail (.tail (.tail (.tail (.tail (.tail .head)))))) (by first | assumption | exact Cs.take rfl) (RVs.tmp rfl RVs.nil)) rfl ?_)
        exact rsub_fail h' H.fr (by unfold subOut; rw [if_neg hno, if_neg hex, if_pos (by omega)])
      · (first | refine Fn.ret1 HF rfl rfl ?_ | refine Fn.ret2 HF rfl rfl rfl ?_ | refine Fn.ret3 HF rfl rfl rfl rfl ?_ | refine Fn.ret0 HF rfl ?_ | refine Fn.fin0 HF rfl ?_ | refine Fn.retG (E := env) HF rfl H (by first | exact RVs.cellN rfl rfl rfl (by first | exact .head | exact .tail .head | exact .tail (.tail .head) | exact .tail (.tail (.tail .head)) | exact .tail (.tail (.tail (.tail .head))) | exact .tail (.tail (.tail (.tail (.tail .head)))) | exact .tail (.tail (.tail (.tail (.tail (.tail .head)))))) (by first | assumption | exact Cs.take rfl) RVs.nil | exact RVs.cellN rfl rfl rfl (by first | exact .head | exact .tail .head | exact .tail (.tail .head) | exact .tail (.tail (.tail .head)) | exact .tail (.tail (.tail (.tail .head))) | exact .tail (.tail (.tail (.tail (.tail .head)))) | exact .tail (.tail (.tail (.tail (.tail (.tail .head)))))) (by first | assumption | exact Cs.take rfl) (RVs.tmp rfl RVs.nil)) rfl ?_)
        exact rsub_fail h' H.fr (by unfold subOut; rw [if_neg hno, if_neg hex, if_neg (by omega), if_pos (by assumption)])
      have hfr := H.fr
      have m1 := H.pick .head
      clear H
      have H := (Holds.start _ [d]).add true m1 (by simp) (by simp)
      (refine Ops.eff rfl (Y.store1 rfl rfl rfl rfl rfl rfl H Upd.head (by repeat (first | exact SetC.zero | apply SetC.succ)) ?_); intro w H0; clear H; have H := H0; clear H0)
      (refine Ops.nil (hK _ _ ?_); clear hK K)
      refine Run.seq ?_
      (refine Run.draw H [21] [0, 2, 3, 4, 5, 7, 8, 9, 10, 11, 12, 14, 1, 6, 13, 15, 16, 17, 18, 19, 20, 21] ?_; clear H; intro K hK w H)
      refine Draw.take0 rfl (X.move rfl) rfl rfl rfl (by decide +kernel) ?_
      refine Draw.take0 rfl (X.move rfl) rfl rfl rfl (by decide +kernel) ?_
      refine Draw.take0 rfl (X.nilCheck rfl) rfl rfl rfl (by decide +kernel) ?_
      refine Draw.take0 rfl (X.fieldAddr rfl rfl rfl rfl rfl rfl) rfl rfl rfl (by decide +kernel) ?_
      refine Draw.take rfl (X.load1 rfl rfl rfl rfl Pick.head rfl) rfl rfl rfl (by decide +kernel) ?_
      refine Draw.take0 rfl (X.move rfl) rfl rfl rfl (by decide +kernel) ?_
      refine Draw.take0 rfl (X.nilCheck rfl) rfl rfl rfl (by decide +kernel) ?_
      refine Draw.take0 rfl (X.fieldAddr rfl rfl rfl rfl rfl rfl) rfl rfl rfl (by decide +kernel) ?_
      refine Draw.take rfl (X.load1 rfl rfl rfl rfl Pick.head rfl) rfl rfl rfl (by decide +kernel) ?_
      refine Draw.take0 rfl (X.move rfl) rfl rfl rfl (by decide +kernel) ?_
      refine Draw.take0 rfl (X.move rfl) rfl rfl rfl (by decide +kernel) ?_
      refine Draw.take0 rfl (X.move rfl) rfl rfl rfl (by decide +kernel) ?_
      have hz : Fr z w [d] := hfr.trans H.fr (by simp) (by simp)
      have hd0 := H.pick .head
      have hF0 : Fr w w [d] := Fr.refl _ _
      have hdz := lt_of_at hd0
      obtain ⟨newsA, hnewsA⟩ : ∃ newsA, newsA = cs.take (l.length * 4) := ⟨_, rfl⟩
      have hnA : newsA.length = l.length * 4 := by
        rw [hnewsA]
        rcases hac with ⟨_, rfl⟩ | ⟨_, _, hcl⟩
        · have : l.length = 0 := by omega
          simp [this]
        · simp; omega
      have h1A : ∀ v ∈ newsA, v.oneCell' = true := by
        intro v hv
        rw [hnewsA] at hv
        obtain ⟨r, hr, e⟩ := List.getElem_of_mem hv
        have hr' : r < l.length * 4 := by simp at hr; omega
        rw [List.getElem_take] at e
        exact cells_one hall (j := r) hr' (by rw [← e]; exact List.getElem?_eq_getElem _)
      have hsrcA : ∀ w', Fr w w' [d] → Src w' a newsA := by
        intro w' hw'
        rcases hac with ⟨rfl, rfl⟩ | ⟨rfl, hcc, hcl⟩
        · have h0 : newsA = [] := List.eq_nil_of_length_eq_zero (by omega)
          rw [h0]
          exact Src.nil
        · have hcd := ne_of_ty hcc ho (by decide)
          have hcw := hw'.get (hz.get hcc (by simpa using hcd)) (by simpa using hcd)
          exact Src.row (m := l.length * 4) ((Holds.start w' []).add false hcw (by simp) (by simp)) .head (by rw [hnewsA]; exact Cs.ofGet _ _ _ (by simp; omega) (fun j hj => by simp [hj]))
      have hlen := canL_len hcan
      have h1B : ∀ v ∈ xs.map (Value.int .i64), v.oneCell' = true := by
        intro v hv
        obtain ⟨x, _, rfl⟩ := List.mem_map.1 hv
        rfl
      obtain ⟨xa, xcap, xb, xoff, xcs, xT, xfz, rfl, k2, k3, k4, k5⟩ := hV
      obtain ⟨rfl, k6⟩ := k4 hcan.1
      have hxb := hxd hcan.1 _ _ _ _ rfl
      have hsrcB : ∀ w', Fr w w' [d] → Src w' (some ⟨xb, xoff, none⟩) (xs.map (Value.int .i64)) := by
        intro w' hw'
        have hcw := hw'.get (hz.get k6 (by simpa using hxb)) (by simpa using hxb)
        exact Src.cells ((Holds.start w' []).add false hcw (by simp) (by simp)) .head k5
      have hout : subOut n last client seq xs l = (last + 1, 0, last + 1, l ++ [⟨last + 1, client, seq, xs⟩]) := by
        unfold subOut
        rw [if_neg hno, if_neg hex, if_neg (by omega), if_neg (by assumption)]
      have hall2 : ∀ i t, l[i]? = some t → TkAt w cs i t := fun i t ht => (hall i t ht).keep hz (fun b hb ds hd => by simp at hb; subst hb; exact ne_of_ty ho hd (by decide) rfl)
      have fin : ∀ (wy : World) (b88 cap88 b85 cap85 : Nat) (cs88 cs85 : List Value), Fr w wy [d] → wy.heap[d]? = some (row [.int .i64 n, .slice (some ⟨b88, 0, none⟩) (0 + l.length + 1) cap88, .int .u64 (last + 1)] 88) → wy.heap[b88]? = some (row cs88 56) → wy.heap[b85]? = some (row cs85 3) → 0 + l.length + 1 ≤ cap88 → cap88 ≤ 9223372036854775807 → cs88.length = cap88 * 4 →
          Cs cs88 0 ((0 + l.length + 1) * 4) ([] ++ newsA ++ tkC ⟨last + 1, client, seq, xs⟩ (.slice (some ⟨b85, 0, none⟩) (0 + xs.length) cap85)) → 0 + xs.length ≤ cap85 → cap85 ≤ 9223372036854775807 → Cs cs85 0 ((0 + xs.length) * 1) ([] ++ xs.map (Value.int .i64)) → w.heap.size ≤ b88 →
          RSubPost z d c n (subOut n last client seq xs l) (.tuple #[.int .u64 (last + 1), .int .i64 0]) wy := by
        intro wy b88 cap88 b85 cap85 cs88 cs85 g1 g2 g3 g4 g5 g6 g7 g8 g9 g10 g11 g12
        rw [hout]
        refine ⟨rfl, hz.trans g1 (by simp) (by simp), b88, ⟨_, g2, ?_⟩, .inr (Nat.le_trans hz.size g12)⟩
        rw [Nat.zero_add] at *
        refine tks_add (b := b85) g5 g6 hall2 g1 (fun b hb ds hd => by simp at hb; subst hb; exact ne_of_ty hd0 hd (by decide) rfl) g3 g7 (fun j hj vs hv => g8.move (k := j) (by omega) (fun r hr => ?_) hv) ((g8.sub (l.length * 4) 4 (by omega)).cast rfl rfl ?_) ⟨cap85, cs85, rfl, g9, g10, g4, g11.cast rfl (Nat.mul_one _) rfl, hcan.1⟩ (by dsimp only; omega)
        · rw [List.nil_append, List.getElem?_append_left (by omega), hnewsA, List.getElem?_take, if_pos (by omega)]
        · rw [List.nil_append, ← hnA, List.drop_left, Nat.zero_add]
          rfl
      -- ORDERS
      refine Draw.eff2 (i := 1) (j := 13) [] [1, 6, 15, 16, 17, 18, 19, 20, 21] rfl rfl rfl rfl (by decide +kernel) (Y.buildSliceO rfl rfl rfl rfl rfl rfl rfl rfl (Holds.start w []) ?_) (Y.buildSliceO rfl rfl rfl rfl rfl rfl rfl rfl (Holds.start w []) ?_)
      · skip
        intro b71 w1 H1 zA
        have hf1 := H1.fr
        have hA1 := H1.pick .head
        replace zA := Nat.le_trans hF0.size zA
        have hF1 : Fr w w1 [d] := hF0.trans hf1 (by simp) (by simp)
        have hd1 := hf1.get hd0 (by first | (simp; done) | (simp; omega))
        refine ⟨fun e he => by simp only [List.mem_singleton] at he; subst he; exact hd1, ?_⟩
        refine Draw.eff2 (i := 6) (j := 13) [13, 15, 16, 17, 18, 19, 20, 21] [6, 15, 16, 17, 18, 19, 20, 21] rfl rfl rfl rfl (by decide +kernel) (Y.appendB (olds := []) (news := newsA) (m := l.length) (len := 0) (cap := 0) 4 (Nat.le_refl 0) (by omega) hA1 rfl .nil rfl rfl rfl rfl rfl rfl hnA (hsrcA _ hF1) rfl h1A (by dsimp only; omega) (by omega) rfl ?_) (Y.buildSliceO rfl rfl rfl rfl rfl rfl rfl rfl (Holds.start w1 []) ?_)
        · skip
          intro b76 cap76 cs76 w2 hf2 hb76 eA1 eA2 hA2 eA3 eA4
          have zA2 : w.heap.size ≤ b76 := hb76.elim (fun e => e ▸ zA) (fun e => Nat.le_trans hF1.size e)
          have hF2 : Fr w w2 [d] := hF1.trans hf2 (by simp) (by intro x hx hlt; simp at hx; subst hx; exact absurd hlt (Nat.not_lt.2 zA))
          have hd2 := hf2.get hd1 (by first | (simp; done) | (simp; omega))
          refine ⟨fun e he => by simp only [List.mem_singleton] at he; subst he; exact hd2, ?_⟩
          refine Draw.eff rfl rfl (by decide +kernel) (Y.buildSliceO rfl rfl rfl rfl rfl rfl rfl rfl (Holds.start w2 []) ?_)
          intro b83 w3 H3 zB
          have hf3 := H3.fr
          have hB3 := H3.pick .head
          replace zB := Nat.le_trans hF2.size zB
          have hF3 : Fr w w3 [d] := hF2.trans hf3 (by simp) (by simp)
          have hd3 := hf3.get hd2 (by first | (simp; done) | (simp; omega))
          have hA3 := hf3.get hA2 (by simp)
          refine ⟨fun e he => by simp only [List.mem_singleton] at he; subst he; exact hd3, ?_⟩
          refine Draw.eff rfl rfl (by decide +kernel) (Y.appendB (olds := []) (news := xs.map (Value.int .i64)) (m := xs.length) (len := 0) (cap := 0) 1 (Nat.le_refl 0) (by omega) hB3 rfl .nil rfl rfl rfl rfl rfl rfl (by simp) (hsrcB _ hF3) rfl h1B (by dsimp only; omega) (by omega) rfl ?_)
          intro b85 cap85 cs85 w4 hf4 hb85 eB1 eB2 hB4 eB3 eB4
          have zB2 : w.heap.size ≤ b85 := hb85.elim (fun e => e ▸ zB) (fun e => Nat.le_trans hF3.size e)
          have hF4 : Fr w w4 [d] := hF3.trans hf4 (by simp) (by intro x hx hlt; simp at hx; subst hx; exact absurd hlt (Nat.not_lt.2 zB))
          have hd4 := hf4.get hd3 (by first | (simp; done) | (simp; omega))
          have hA4 := hf4.get hA3 (by simpa using ne_of_ty hA3 hB3 (by decide))
          refine ⟨fun e he => by simp only [List.mem_singleton] at he; subst he; exact hd4, ?_⟩
          refine Draw.take0 rfl (X.buildO rfl rfl rfl rfl rfl rfl) rfl rfl rfl (by decide +kernel) ?_
          refine Draw.eff rfl rfl (by decide +kernel) (Y.buildSliceO rfl rfl rfl rfl rfl rfl rfl rfl (Holds.start w4 []) ?_)
          intro b87 w5 H5 zE
          have hf5 := H5.fr
          have hE5 := H5.pick .head
          replace zE := Nat.le_trans hF4.size zE
          have hF5 : Fr w w5 [d] := hF4.trans hf5 (by simp) (by simp)
          have hd5 := hf5.get hd4 (by first | (simp; done) | (simp; omega))
          have hA5 := hf5.get hA4 (by simp)
          have hB5 := hf5.get hB4 (by simp)
          refine ⟨fun e he => by simp only [List.mem_singleton] at he; subst he; exact hd5, ?_⟩
          refine Draw.eff rfl rfl (by decide +kernel) (Y.appendB (olds := [] ++ newsA) (news := tkC ⟨last + 1, client, seq, xs⟩ (.slice (some ⟨b85, 0, none⟩) (0 + xs.length) cap85)) (m := 1) (len := 0 + l.length) 4 eA1 eA2 hA5 eA3 eA4 rfl rfl rfl rfl rfl rfl rfl (Src.row (m := 4) ((Holds.start w5 []).add false hE5 (by simp) (by simp)) .head (Cs.take rfl)) rfl (by intro u hu; simp [tkC] at hu; rcases hu with rfl | rfl | rfl | rfl <;> rfl) (by dsimp only; omega) (by omega) rfl ?_)
          intro b88 cap88 cs88 wz hfz hb88 f1 f2 hAz f3 f4
          have hFz : Fr w wz [d] := hF5.trans hfz (by simp) (by intro x hx hlt; simp at hx; subst hx; exact absurd hlt (Nat.not_lt.2 zA2))
          have hdz2 := hfz.get hd5 (by simp; omega)
          have hBz := hfz.get hB5 (by simpa using ne_of_ty hB5 hA5 (by decide))
          refine ⟨fun e he => by simp only [List.mem_singleton] at he; subst he; exact hdz2, ?_⟩
          clear H
          have H := (((Holds.start wz [d]).add true hdz2 (by simp) (by simp)).add false hAz (by simpa using ne_of_ty hAz hdz2 (by decide)) (by simp)).add false hBz (by simpa using ⟨ne_of_ty hBz hAz (by decide), ne_of_ty hBz hdz2 (by decide)⟩) (by simp)
          refine Draw.take0 rfl (X.nilCheck rfl) rfl rfl rfl (by decide +kernel) ?_
          refine Draw.take0 rfl (X.fieldAddr rfl rfl rfl rfl rfl rfl) rfl rfl rfl (by decide +kernel) ?_
          (refine Draw.last rfl rfl (by decide +kernel) (Y.store1 rfl rfl rfl rfl rfl rfl H (.tail (.tail .head)) (by repeat (first | exact SetC.zero | apply SetC.succ)) ?_); intro w H0; clear H; have H := H0; clear H0)
          (refine Draw2.done (by decide +kernel) (hK _ _ ?_); clear hK K)
          refine Run.seq ?_
          (refine Run.region ?_; intro K hK)
          refine Ops.pure H (X.move rfl) rfl rfl rfl ?_
          refine Ops.pure H (X.nilCheck rfl) rfl rfl rfl ?_
          refine Ops.pure H (X.fieldAddr rfl rfl rfl rfl rfl rfl) rfl rfl rfl ?_
          refine Ops.pure H (X.load1 rfl rfl rfl rfl (.tail (.tail .head)) rfl) rfl rfl rfl ?_
          refine Ops.pure H (X.assign rfl) rfl rfl rfl ?_
          refine Ops.pure H (X.assign rfl) rfl rfl rfl ?_
          (refine Ops.nil (hK _ _ ?_); clear hK K)
          (first | refine Fn.ret1 HF rfl rfl ?_ | refine Fn.ret2 HF rfl rfl rfl ?_ | refine Fn.ret3 HF rfl rfl rfl rfl ?_ | refine Fn.ret0 HF rfl ?_ | refine Fn.fin0 HF rfl ?_ | refine Fn.retG (E := env) HF rfl H (by first | exact RVs.cellN rfl rfl rfl (by first | exact .head | exact .tail .head | exact .tail (.tail .head) | exact .tail (.tail (.tail .head)) | exact .tail (.tail (.tail (.tail .head))) | exact .tail (.tail (.tail (.tail (.tail .head)))) | exact .tail (.tail (.tail (.tail (.tail (.tail .head)))))) (by first | assumption | exact Cs.take rfl) RVs.nil | exact RVs.cellN rfl rfl rfl (by first | exact .head | exact .tail .head | exact .tail (.tail .head) | exact .tail (.tail (.tail .head)) | exact .tail (.tail (.tail (.tail .head))) | exact .tail (.tail (.tail (.tail (.tail .head)))) | exact .tail (.tail (.tail (.tail (.tail (.tail .head)))))) (by first | assumption | exact Cs.take rfl) (RVs.tmp rfl RVs.nil)) rfl ?_)
          exact fin _ _ _ _ _ _ _ (hFz.trans H.fr (by simp) (by simp)) (H.pick (by first | exact .head | exact .tail .head | exact .tail (.tail .head) | exact .tail (.tail (.tail .head)) | exact .tail (.tail (.tail (.tail .head))) | exact .tail (.tail (.tail (.tail (.tail .head)))) | exact .tail (.tail (.tail (.tail (.tail (.tail .head))))))) (H.pick (by first | exact .head | exact .tail .head | exact .tail (.tail .head) | exact .tail (.tail (.tail .head)) | exact .tail (.tail (.tail (.tail .head))) | exact .tail (.tail (.tail (.tail (.tail .head)))) | exact .tail (.tail (.tail (.tail (.tail (.tail .head))))))) (H.pick (by first | exact .head | exact .tail .head | exact .tail (.tail .head) | exact .tail (.tail (.tail .head)) | exact .tail (.tail (.tail (.tail .head))) | exact .tail (.tail (.tail (.tail (.tail .head)))) | exact .tail (.tail (.tail (.tail (.tail (.tail .head))))))) f1 f2 f3 f4 eB1 eB2 eB4 (hb88.elim (fun e => e ▸ zA2) (fun e => Nat.le_trans hF5.size e))
        · skip
          intro b83 w2 H2 zB
          have hf2 := H2.fr
          have hB2 := H2.pick .head
          replace zB := Nat.le_trans hF1.size zB
          have hF2 : Fr w w2 [d] := hF1.trans hf2 (by simp) (by simp)
          have hd2 := hf2.get hd1 (by first | (simp; done) | (simp; omega))
          have hA2 := hf2.get hA1 (by simp)
          refine ⟨fun e he => by simp only [List.mem_singleton] at he; subst he; exact hd2, ?_⟩
          refine Draw.eff rfl rfl (by decide +kernel) (Y.appendB (olds := []) (news := newsA) (m := l.length) (len := 0) (cap := 0) 4 (Nat.le_refl 0) (by omega) hA2 rfl .nil rfl rfl rfl rfl rfl rfl hnA (hsrcA _ hF2) rfl h1A (by dsimp only; omega) (by omega) rfl ?_)
          intro b76 cap76 cs76 w3 hf3 hb76 eA1 eA2 hA3 eA3 eA4
          have zA2 : w.heap.size ≤ b76 := hb76.elim (fun e => e ▸ zA) (fun e => Nat.le_trans hF2.size e)
          have hF3 : Fr w w3 [d] := hF2.trans hf3 (by simp) (by intro x hx hlt; simp at hx; subst hx; exact absurd hlt (Nat.not_lt.2 zA))
          have hd3 := hf3.get hd2 (by first | (simp; done) | (simp; omega))
          have hB3 := hf3.get hB2 (by simpa using ne_of_ty hB2 hA2 (by decide))
          refine ⟨fun e he => by simp only [List.mem_singleton] at he; subst he; exact hd3, ?_⟩
          refine Draw.eff rfl rfl (by decide +kernel) (Y.appendB (olds := []) (news := xs.map (Value.int .i64)) (m := xs.length) (len := 0) (cap := 0) 1 (Nat.le_refl 0) (by omega) hB3 rfl .nil rfl rfl rfl rfl rfl rfl (by simp) (hsrcB _ hF3) rfl h1B (by dsimp only; omega) (by omega) rfl ?_)
          intro b85 cap85 cs85 w4 hf4 hb85 eB1 eB2 hB4 eB3 eB4
          have zB2 : w.heap.size ≤ b85 := hb85.elim (fun e => e ▸ zB) (fun e => Nat.le_trans hF3.size e)
          have hF4 : Fr w w4 [d] := hF3.trans hf4 (by simp) (by intro x hx hlt; simp at hx; subst hx; exact absurd hlt (Nat.not_lt.2 zB))
          have hd4 := hf4.get hd3 (by first | (simp; done) | (simp; omega))
          have hA4 := hf4.get hA3 (by simpa using ne_of_ty hA3 hB3 (by decide))
          refine ⟨fun e he => by simp only [List.mem_singleton] at he; subst he; exact hd4, ?_⟩
          refine Draw.take0 rfl (X.buildO rfl rfl rfl rfl rfl rfl) rfl rfl rfl (by decide +kernel) ?_
          refine Draw.eff rfl rfl (by decide +kernel) (Y.buildSliceO rfl rfl rfl rfl rfl rfl rfl rfl (Holds.start w4 []) ?_)
          intro b87 w5 H5 zE
          have hf5 := H5.fr
          have hE5 := H5.pick .head
          replace zE := Nat.le_trans hF4.size zE
          have hF5 : Fr w w5 [d] := hF4.trans hf5 (by simp) (by simp)
          have hd5 := hf5.get hd4 (by first | (simp; done) | (simp; omega))
          have hA5 := hf5.get hA4 (by simp)
          have hB5 := hf5.get hB4 (by simp)
          refine ⟨fun e he => by simp only [List.mem_singleton] at he; subst he; exact hd5, ?_⟩
          refine Draw.eff rfl rfl (by decide +kernel) (Y.appendB (olds := [] ++ newsA) (news := tkC ⟨last + 1, client, seq, xs⟩ (.slice (some ⟨b85, 0, none⟩) (0 + xs.length) cap85)) (m := 1) (len := 0 + l.length) 4 eA1 eA2 hA5 eA3 eA4 rfl rfl rfl rfl rfl rfl rfl (Src.row (m := 4) ((Holds.start w5 []).add false hE5 (by simp) (by simp)) .head (Cs.take rfl)) rfl (by intro u hu; simp [tkC] at hu; rcases hu with rfl | rfl | rfl | rfl <;> rfl) (by dsimp only; omega) (by omega) rfl ?_)
          intro b88 cap88 cs88 wz hfz hb88 f1 f2 hAz f3 f4
          have hFz : Fr w wz [d] := hF5.trans hfz (by simp) (by intro x hx hlt; simp at hx; subst hx; exact absurd hlt (Nat.not_lt.2 zA2))
          have hdz2 := hfz.get hd5 (by simp; omega)
          have hBz := hfz.get hB5 (by simpa using ne_of_ty hB5 hA5 (by decide))
          refine ⟨fun e he => by simp only [List.mem_singleton] at he; subst he; exact hdz2, ?_⟩
          clear H
          have H := (((Holds.start wz [d]).add true hdz2 (by simp) (by simp)).add false hAz (by simpa using ne_of_ty hAz hdz2 (by decide)) (by simp)).add false hBz (by simpa using ⟨ne_of_ty hBz hAz (by decide), ne_of_ty hBz hdz2 (by decide)⟩) (by simp)
          refine Draw.take0 rfl (X.nilCheck rfl) rfl rfl rfl (by decide +kernel) ?_
          refine Draw.take0 rfl (X.fieldAddr rfl rfl rfl rfl rfl rfl) rfl rfl rfl (by decide +kernel) ?_
          (refine Draw.last rfl rfl (by decide +kernel) (Y.store1 rfl rfl rfl rfl rfl rfl H (.tail (.tail .head)) (by repeat (first | exact SetC.zero | apply SetC.succ)) ?_); intro w H0; clear H; have H := H0; clear H0)
          (refine Draw2.done (by decide +kernel) (hK _ _ ?_); clear hK K)
          refine Run.seq ?_
          (refine Run.region ?_; intro K hK)
          refine Ops.pure H (X.move rfl) rfl rfl rfl ?_
          refine Ops.pure H (X.nilCheck rfl) rfl rfl rfl ?_
          refine Ops.pure H (X.fieldAddr rfl rfl rfl rfl rfl rfl) rfl rfl rfl ?_
          refine Ops.pure H (X.load1 rfl rfl rfl rfl (.tail (.tail .head)) rfl) rfl rfl rfl ?_
          refine Ops.pure H (X.assign rfl) rfl rfl rfl ?_
          refine Ops.pure H (X.assign rfl) rfl rfl rfl ?_
          (refine Ops.nil (hK _ _ ?_); clear hK K)
          (first | refine Fn.ret1 HF rfl rfl ?_ | refine Fn.ret2 HF rfl rfl rfl ?_ | refine Fn.ret3 HF rfl rfl rfl rfl ?_ | refine Fn.ret0 HF rfl ?_ | refine Fn.fin0 HF rfl ?_ | refine Fn.retG (E := env) HF rfl H (by first | exact RVs.cellN rfl rfl rfl (by first | exact .head | exact .tail .head | exact .tail (.tail .head) | exact .tail (.tail (.tail .head)) | exact .tail (.tail (.tail (.tail .head))) | exact .tail (.tail (.tail (.tail (.tail .head)))) | exact .tail (.tail (.tail (.tail (.tail (.tail .head)))))) (by first | assumption | exact Cs.take rfl) RVs.nil | exact RVs.cellN rfl rfl rfl (by first | exact .head | exact .tail .head | exact .tail (.tail .head) | exact .tail (.tail (.tail .head)) | exact .tail (.tail (.tail (.tail .head))) | exact .tail (.tail (.tail (.tail (.tail .head)))) | exact .tail (.tail (.tail (.tail (.tail (.tail .head)))))) (by first | assumption | exact Cs.take rfl) (RVs.tmp rfl RVs.nil)) rfl ?_)
          exact fin _ _ _ _ _ _ _ (hFz.trans H.fr (by simp) (by simp)) (H.pick (by first | exact .head | exact .tail .head | exact .tail (.tail .head) | exact .tail (.tail (.tail .head)) | exact .tail (.tail (.tail (.tail .head))) | exact .tail (.tail (.tail (.tail (.tail .head)))) | exact .tail (.tail (.tail (.tail (.tail (.tail .head))))))) (H.pick (by first | exact .head | exact .tail .head | exact .tail (.tail .head) | exact .tail (.tail (.tail .head)) | exact .tail (.tail (.tail (.tail .head))) | exact .tail (.tail (.tail (.tail (.tail .head)))) | exact .tail (.tail (.tail (.tail (.tail (.tail .head))))))) (H.pick (by first | exact .head | exact .tail .head | exact .tail (.tail .head) | exact .tail (.tail (.tail .head)) | exact .tail (.tail (.tail (.tail .head))) | exact .tail (.tail (.tail (.tail (.tail .head)))) | exact .tail (.tail (.tail (.tail (.tail (.tail .head))))))) f1 f2 f3 f4 eB1 eB2 eB4 (hb88.elim (fun e => e ▸ zA2) (fun e => Nat.le_trans hF5.size e))
      · skip
        intro b83 w1 H1 zB
        have hf1 := H1.fr
        have hB1 := H1.pick .head
        replace zB := Nat.le_trans hF0.size zB
        have hF1 : Fr w w1 [d] := hF0.trans hf1 (by simp) (by simp)
        have hd1 := hf1.get hd0 (by first | (simp; done) | (simp; omega))
        refine ⟨fun e he => by simp only [List.mem_singleton] at he; subst he; exact hd1, ?_⟩
        refine Draw.eff rfl rfl (by decide +kernel) (Y.buildSliceO rfl rfl rfl rfl rfl rfl rfl rfl (Holds.start w1 []) ?_)
        intro b71 w2 H2 zA
        have hf2 := H2.fr
        have hA2 := H2.pick .head
        replace zA := Nat.le_trans hF1.size zA
        have hF2 : Fr w w2 [d] := hF1.trans hf2 (by simp) (by simp)
        have hd2 := hf2.get hd1 (by first | (simp; done) | (simp; omega))
        have hB2 := hf2.get hB1 (by simp)
        refine ⟨fun e he => by simp only [List.mem_singleton] at he; subst he; exact hd2, ?_⟩
        refine Draw.eff rfl rfl (by decide +kernel) (Y.appendB (olds := []) (news := newsA) (m := l.length) (len := 0) (cap := 0) 4 (Nat.le_refl 0) (by omega) hA2 rfl .nil rfl rfl rfl rfl rfl rfl hnA (hsrcA _ hF2) rfl h1A (by dsimp only; omega) (by omega) rfl ?_)
        intro b76 cap76 cs76 w3 hf3 hb76 eA1 eA2 hA3 eA3 eA4
        have zA2 : w.heap.size ≤ b76 := hb76.elim (fun e => e ▸ zA) (fun e => Nat.le_trans hF2.size e)
        have hF3 : Fr w w3 [d] := hF2.trans hf3 (by simp) (by intro x hx hlt; simp at hx; subst hx; exact absurd hlt (Nat.not_lt.2 zA))
        have hd3 := hf3.get hd2 (by first | (simp; done) | (simp; omega))
        have hB3 := hf3.get hB2 (by simpa using ne_of_ty hB2 hA2 (by decide))
        refine ⟨fun e he => by simp only [List.mem_singleton] at he; subst he; exact hd3, ?_⟩
        refine Draw.eff rfl rfl (by decide +kernel) (Y.appendB (olds := []) (news := xs.map (Value.int .i64)) (m := xs.length) (len := 0) (cap := 0) 1 (Nat.le_refl 0) (by omega) hB3 rfl .nil rfl rfl rfl rfl rfl rfl (by simp) (hsrcB _ hF3) rfl h1B (by dsimp only; omega) (by omega) rfl ?_)
        intro b85 cap85 cs85 w4 hf4 hb85 eB1 eB2 hB4 eB3 eB4
        have zB2 : w.heap.size ≤ b85 := hb85.elim (fun e => e ▸ zB) (fun e => Nat.le_trans hF3.size e)
        have hF4 : Fr w w4 [d] := hF3.trans hf4 (by simp) (by intro x hx hlt; simp at hx; subst hx; exact absurd hlt (Nat.not_lt.2 zB))
        have hd4 := hf4.get hd3 (by first | (simp; done) | (simp; omega))
        have hA4 := hf4.get hA3 (by simpa using ne_of_ty hA3 hB3 (by decide))
        refine ⟨fun e he => by simp only [List.mem_singleton] at he; subst he; exact hd4, ?_⟩
        refine Draw.take0 rfl (X.buildO rfl rfl rfl rfl rfl rfl) rfl rfl rfl (by decide +kernel) ?_
        refine Draw.eff rfl rfl (by decide +kernel) (Y.buildSliceO rfl rfl rfl rfl rfl rfl rfl rfl (Holds.start w4 []) ?_)
        intro b87 w5 H5 zE
        have hf5 := H5.fr
        have hE5 := H5.pick .head
        replace zE := Nat.le_trans hF4.size zE
        have hF5 : Fr w w5 [d] := hF4.trans hf5 (by simp) (by simp)
        have hd5 := hf5.get hd4 (by first | (simp; done) | (simp; omega))
        have hA5 := hf5.get hA4 (by simp)
        have hB5 := hf5.get hB4 (by simp)
        refine ⟨fun e he => by simp only [List.mem_singleton] at he; subst he; exact hd5, ?_⟩
        refine Draw.eff rfl rfl (by decide +kernel) (Y.appendB (olds := [] ++ newsA) (news := tkC ⟨last + 1, client, seq, xs⟩ (.slice (some ⟨b85, 0, none⟩) (0 + xs.length) cap85)) (m := 1) (len := 0 + l.length) 4 eA1 eA2 hA5 eA3 eA4 rfl rfl rfl rfl rfl rfl rfl (Src.row (m := 4) ((Holds.start w5 []).add false hE5 (by simp) (by simp)) .head (Cs.take rfl)) rfl (by intro u hu; simp [tkC] at hu; rcases hu with rfl | rfl | rfl | rfl <;> rfl) (by dsimp only; omega) (by omega) rfl ?_)
        intro b88 cap88 cs88 wz hfz hb88 f1 f2 hAz f3 f4
        have hFz : Fr w wz [d] := hF5.trans hfz (by simp) (by intro x hx hlt; simp at hx; subst hx; exact absurd hlt (Nat.not_lt.2 zA2))
        have hdz2 := hfz.get hd5 (by simp; omega)
        have hBz := hfz.get hB5 (by simpa using ne_of_ty hB5 hA5 (by decide))
        refine ⟨fun e he => by simp only [List.mem_singleton] at he; subst he; exact hdz2, ?_⟩
        clear H
        have H := (((Holds.start wz [d]).add true hdz2 (by simp) (by simp)).add false hAz (by simpa using ne_of_ty hAz hdz2 (by decide)) (by simp)).add false hBz (by simpa using ⟨ne_of_ty hBz hAz (by decide), ne_of_ty hBz hdz2 (by decide)⟩) (by simp)
        refine Draw.take0 rfl (X.nilCheck rfl) rfl rfl rfl (by decide +kernel) ?_
        refine Draw.take0 rfl (X.fieldAddr rfl rfl rfl rfl rfl rfl) rfl rfl rfl (by decide +kernel) ?_
        (refine Draw.last rfl rfl (by decide +kernel) (Y.store1 rfl rfl rfl rfl rfl rfl H (.tail (.tail .head)) (by repeat (first | exact SetC.zero | apply SetC.succ)) ?_); intro w H0; clear H; have H := H0; clear H0)
        (refine Draw2.done (by decide +kernel) (hK _ _ ?_); clear hK K)
        refine Run.seq ?_
        (refine Run.region ?_; intro K hK)
        refine Ops.pure H (X.move rfl) rfl rfl rfl ?_
        refine Ops.pure H (X.nilCheck rfl) rfl rfl rfl ?_
        refine Ops.pure H (X.fieldAddr rfl rfl rfl rfl rfl rfl) rfl rfl rfl ?_
        refine Ops.pure H (X.load1 rfl rfl rfl rfl (.tail (.tail .head)) rfl) rfl rfl rfl ?_
        refine Ops.pure H (X.assign rfl) rfl rfl rfl ?_
        refine Ops.pure H (X.assign rfl) rfl rfl rfl ?_
        (refine Ops.nil (hK _ _ ?_); clear hK K)
        (first | refine Fn.ret1 HF rfl rfl ?_ | refine Fn.ret2 HF rfl rfl rfl ?_ | refine Fn.ret3 HF rfl rfl rfl rfl ?_ | refine Fn.ret0 HF rfl ?_ | refine Fn.fin0 HF rfl ?_ | refine Fn.retG (E := env) HF rfl H (by first | exact RVs.cellN rfl rfl rfl (by first | exact .head | exact .tail .head | exact .tail (.tail .head) | exact .tail (.tail (.tail .head)) | exact .tail (.tail (.tail (.tail .head))) | exact .tail (.tail (.tail (.tail (.tail .head)))) | exact .tail (.tail (.tail (.tail (.tail (.tail .head)))))) (by first | assumption | exact Cs.take rfl) RVs.nil | exact RVs.cellN rfl rfl rfl (by first | exact .head | exact .tail .head | exact .tail (.tail .head) | exact .tail (.tail (.tail .head)) | exact .tail (.tail (.tail (.tail .head))) | exact .tail (.tail (.tail (.tail (.tail .head)))) | exact .tail (.tail (.tail (.tail (.tail (.tail .head)))))) (by first | assumption | exact Cs.take rfl) (RVs.tmp rfl RVs.nil)) rfl ?_)
        exact fin _ _ _ _ _ _ _ (hFz.trans H.fr (by simp) (by simp)) (H.pick (by first | exact .head | exact .tail .head | exact .tail (.tail .head) | exact .tail (.tail (.tail .head)) | exact .tail (.tail (.tail (.tail .head))) | exact .tail (.tail (.tail (.tail (.tail .head)))) | exact .tail (.tail (.tail (.tail (.tail (.tail .head))))))) (H.pick (by first | exact .head | exact .tail .head | exact .tail (.tail .head) | exact .tail (.tail (.tail .head)) | exact .tail (.tail (.tail (.tail .head))) | exact .tail (.tail (.tail (.tail (.tail .head)))) | exact .tail (.tail (.tail (.tail (.tail (.tail .head))))))) (H.pick (by first | exact .head | exact .tail .head | exact .tail (.tail .head) | exact .tail (.tail (.tail .head)) | exact .tail (.tail (.tail (.tail .head))) | exact .tail (.tail (.tail (.tail (.tail .head)))) | exact .tail (.tail (.tail (.tail (.tail (.tail .head))))))) f1 f2 f3 f4 eB1 eB2 eB4 (hb88.elim (fun e => e ▸ zA2) (fun e => Nat.le_trans hF5.size e))
      -- END
  · rw [decide_eq_false hcan]
    refine Ops.pure H (X.not rfl) rfl rfl rfl ?_
    refine Ops.pure H (X.pick_f rfl rfl) rfl rfl rfl ?_
    (refine Ops.nil (hK _ _ ?_); clear hK K)
    refine Run.cond_true rfl ?_
    refine Run.seq ?_
    (refine Run.region ?_; intro K hK)
    refine Ops.pure H (X.assign rfl) rfl rfl rfl ?_
    refine Ops.pure H (X.assign rfl) rfl rfl rfl ?_
    (refine Ops.nil (hK _ _ ?_); clear hK K)
    (first | refine Fn.ret1 HF rfl rfl ?_ | refine Fn.ret2 HF rfl rfl rfl ?_ | refine Fn.ret3 HF rfl rfl rfl rfl ?_ | refine Fn.ret0 HF rfl ?_ | refine Fn.fin0 HF rfl ?_ | refine Fn.retG (E := env) HF rfl H (by first | exact RVs.cellN rfl rfl rfl (by first | exact .head | exact .tail .head | exact .tail (.tail .head) | exact .tail (.tail (.tail .head)) | exact .tail (.tail (.tail (.tail .head))) | exact .tail (.tail (.tail (.tail (.tail .head)))) | exact .tail (.tail (.tail (.tail (.tail (.tail .head)))))) (by first | assumption | exact Cs.take rfl) RVs.nil | exact RVs.cellN rfl rfl rfl (by first | exact .head | exact .tail .head | exact .tail (.tail .head) | exact .tail (.tail (.tail .head)) | exact .tail (.tail (.tail (.tail .head))) | exact .tail (.tail (.tail (.tail (.tail .head)))) | exact .tail (.tail (.tail (.tail (.tail (.tail .head)))))) (by first | assumption | exact Cs.take rfl) (RVs.tmp rfl RVs.nil)) rfl ?_)
    exact rsub_fail h' H.fr (by unfold subOut; rw [if_pos (.inr hcan)])
end Go.Proofs.Ythidohdnaeboaaa
