/- Walks of layer 20: DedupBack. -/
import Derived.Test.YtaneenahapdabaaT2
namespace Go.Proofs.Ytaneenahapdabaa
open Go
set_option maxRecDepth 20000
set_option maxHeartbeats 2000000
attribute [local irreducible] Run Ops Fn Draw Draw2 PureOp StepZ

theorem back_no (z : World) (n : Int) (V1 V2 V3 V4 : Value) (hn : ¬ (1 ≤ n ∧ n ≤ 64)) :
    Fn env.P 3 [.int .i64 n, V1, V2, V3, V4] z fun v w' => v = .bool true ∧ Fr z w' [] := by
  have H := Holds.start z []
  have HF := Try.func3; refine Fn.enter Try.func3 Try.ntmps3 rfl rfl rfl ?_
  refine Run.seq ?_
  (refine Run.region ?_; intro K hK)
  refine Ops.pure H (X.assign rfl) rfl rfl rfl ?_
  (refine Ops.nil (hK _ _ ?_); clear hK K)
  refine Run.seq ?_
  refine Run.seq ?_
  (refine Run.region ?_; intro K hK)
  refine Ops.eff rfl (Y.call rfl rfl (by first | assumption | decide +kernel) rfl (lives_any _) rfl ?_)
  rintro v w1 ⟨rfl, hf1⟩
  replace H := H.ext hf1
  refine Ops.pure H (X.not rfl) rfl rfl rfl ?_
  (refine Ops.nil (hK _ _ ?_); clear hK K)
  refine Run.cond_false rfl ?_
  refine Run.skip ?_
  refine Run.seq ?_
  (refine Run.region ?_; intro K hK)
  refine Ops.pure H (X.move rfl) rfl rfl rfl ?_
  refine Ops.eff rfl (Y.call rfl rfl (by first | assumption | decide +kernel) rfl (begins_no _ n hn) rfl ?_)
  rintro v w2 ⟨rfl, hf2⟩
  replace H := H.ext hf2
  refine Ops.pure H (X.move rfl) rfl rfl rfl ?_
  refine Ops.pure H (X.extract rfl rfl) rfl rfl rfl ?_
  refine Ops.pure H (X.extract rfl rfl) rfl rfl rfl ?_
  refine Ops.pure H (X.assign rfl) rfl rfl rfl ?_
  refine Ops.pure H (X.assign rfl) rfl rfl rfl ?_
  (refine Ops.nil (hK _ _ ?_); clear hK K)
  refine Run.seq ?_
  refine Run.seq ?_
  (refine Run.region ?_; intro K hK)
  refine Ops.pure H (X.move rfl) rfl rfl rfl ?_
  refine Ops.pure H (X.ptrNil rfl rfl rfl rfl rfl) rfl rfl rfl ?_
  (refine Ops.nil (hK _ _ ?_); clear hK K)
  refine Run.cond_true rfl ?_
  refine Run.seq ?_
  (refine Run.region ?_; intro K hK)
  refine Ops.pure H (X.move rfl) rfl rfl rfl ?_
  refine Ops.pure H (X.assign rfl) rfl rfl rfl ?_
  (refine Ops.nil (hK _ _ ?_); clear hK K)
  (first | refine Fn.ret1 HF rfl rfl ?_ | refine Fn.ret2 HF rfl rfl rfl ?_ | refine Fn.ret3 HF rfl rfl rfl rfl ?_ | refine Fn.ret0 HF rfl ?_ | refine Fn.fin0 HF rfl ?_ | refine Fn.retG (E := env) HF rfl H (by first | exact RVs.cellN rfl rfl rfl (by first | exact .head | exact .tail .head | exact .tail (.tail .head) | exact .tail (.tail (.tail .head)) | exact .tail (.tail (.tail (.tail .head))) | exact .tail (.tail (.tail (.tail (.tail .head)))) | exact .tail (.tail (.tail (.tail (.tail (.tail .head)))))) (by first | assumption | exact Cs.take rfl) RVs.nil | exact RVs.cellN rfl rfl rfl (by first | exact .head | exact .tail .head | exact .tail (.tail .head) | exact .tail (.tail (.tail .head)) | exact .tail (.tail (.tail (.tail .head))) | exact .tail (.tail (.tail (.tail (.tail .head)))) | exact .tail (.tail (.tail (.tail (.tail (.tail .head)))))) (by first | assumption | exact Cs.take rfl) (RVs.tmp rfl RVs.nil) | exact RVs.cellN rfl rfl rfl (by first | exact .head | exact .tail .head | exact .tail (.tail .head) | exact .tail (.tail (.tail .head)) | exact .tail (.tail (.tail (.tail .head))) | exact .tail (.tail (.tail (.tail (.tail .head)))) | exact .tail (.tail (.tail (.tail (.tail (.tail .head)))))) (by first | assumption | exact Cs.take rfl) (RVs.tmp rfl (RVs.tmp rfl RVs.nil))) rfl ?_)
  exact ⟨rfl, H.fr⟩
theorem back_yes (z : World) (n : Nat) (aa : Option Addr) (an acap ab aoff : Nat) (acs : List Value) (aT : TypeId) (afz : Nat × Nat) (A : Nat → DA) (hA : DActs z aa an ab aoff acs aT afz A) (hS : ∀ j, j < an → U64 (A j).client ∧ U64 (A j).seq ∧ Byt (A j).xs)
    (ma : Option Addr) (mn mcap mb moff : Nat) (mcs : List Value) (mT : TypeId) (mfz : Nat × Nat) (M : Nat → DA) (hM : DActs z ma mn mb moff mcs mT mfz M) (hMS : ∀ j, j < mn → U64 (M j).client ∧ U64 (M j).seq ∧ Byt (M j).xs)
    (at_ by_ : Nat) (hat : at_ < 65536) (hby : by_ < 256) (h1 : 1 ≤ n) (h2 : n ≤ 64) :
    Fn env.P 3 [.int .i64 (n : Nat), .slice aa an acap, .slice ma mn mcap, .int .u16 (at_ : Nat), .int .u8 (by_ : Nat)] z fun v w' => v = .bool true ∧ Fr z w' [] := by
  have hanm := hA.1
  have hmnm := hM.1
  have H := Holds.start z []
  have HF := Try.func3; refine Fn.enter Try.func3 Try.ntmps3 rfl rfl rfl ?_
  refine Run.seq ?_
  (refine Run.region ?_; intro K hK)
  refine Ops.pure H (X.assign rfl) rfl rfl rfl ?_
  (refine Ops.nil (hK _ _ ?_); clear hK K)
  refine Run.seq ?_
  refine Run.seq ?_
  (refine Run.region ?_; intro K hK)
  refine Ops.eff rfl (Y.call rfl rfl (by first | assumption | decide +kernel) rfl (lives_any _) rfl ?_)
  rintro v w1 ⟨rfl, hf1⟩
  replace H := H.ext hf1
  refine Ops.pure H (X.not rfl) rfl rfl rfl ?_
  (refine Ops.nil (hK _ _ ?_); clear hK K)
  refine Run.cond_false rfl ?_
  refine Run.skip ?_
  refine Run.seq ?_
  (refine Run.region ?_; intro K hK)
  refine Ops.pure H (X.move rfl) rfl rfl rfl ?_
  refine Ops.eff rfl (Y.call rfl rfl (by first | assumption | decide +kernel) rfl (begins_yes _ (n : Nat) (by omega) (by omega)) rfl ?_)
  rintro v w2 ⟨pb, wb, mb2, db, rfl, hP2, hW2, _, hf2, hwb, hmb, _, hpb⟩
  have hz1 := H.fr.size
  replace H := H.ext hf2
  have G2 : Go1 z w2 n ⟨wb, mb2, n, 0, fun _ => none⟩ := Go1.new H.fr hW2 (by omega) (by omega)
  have hpz : z.heap.size ≤ pb := by omega
  clear H hW2 hf1 hf2
  have H := (Holds.start w2 []).add false hP2 (by simp) (by simp)
  refine Ops.pure H (X.move rfl) rfl rfl rfl ?_
  refine Ops.pure H (X.extract rfl rfl) rfl rfl rfl ?_
  refine Ops.pure H (X.extract rfl rfl) rfl rfl rfl ?_
  refine Ops.pure H (X.assign rfl) rfl rfl rfl ?_
  refine Ops.pure H (X.assign rfl) rfl rfl rfl ?_
  (refine Ops.nil (hK _ _ ?_); clear hK K)
  refine Run.seq ?_
  refine Run.seq ?_
  (refine Run.region ?_; intro K hK)
  refine Ops.pure H (X.move rfl) rfl rfl rfl ?_
  refine Ops.pure H (X.ptrNil rfl rfl rfl rfl rfl) rfl rfl rfl ?_
  (refine Ops.nil (hK _ _ ?_); clear hK K)
  refine Run.cond_false rfl ?_
  refine Run.skip ?_
  refine Run.seq ?_
  refine Run.seq ?_
  (refine Run.region ?_; intro K hK)
  refine Ops.pure H (X.assign rfl) rfl rfl rfl ?_
  (refine Ops.nil (hK _ _ ?_); clear hK K)
  refine Run.block ?_
  refine Run.rounds (fun (s : Nat × WS) => [(1, .slice aa an acap), (2, .slice ma mn mcap), (3, .int .u16 (at_ : Nat)), (4, .int .u8 (by_ : Nat)), (11, .pointer (some ⟨pb, 0, none⟩)), (13, .int .i64 (s.1 : Nat))])
    (fun s w' => s.1 ≤ an ∧ Go1 z w' n s.2 ∧ w'.heap[pb]? = some (row [.pointer (some ⟨s.2.wb, 0, none⟩), .pointer (some ⟨db, 0, none⟩)] 36)) (fun s => an - s.1) (0, _) (by repeat (first | exact trivial | refine ⟨rfl, ?_⟩)) ⟨by dsimp only; omega, G2.ext H.fr, H.pick (by first | exact .head | exact .tail .head | exact .tail (.tail .head) | exact .tail (.tail (.tail .head)) | exact .tail (.tail (.tail (.tail .head))) | exact .tail (.tail (.tail (.tail (.tail .head)))) | exact .tail (.tail (.tail (.tail (.tail (.tail .head))))))⟩ ?_
  clear H G2 hP2
  rintro ⟨i, W⟩ w3 ⟨hi, G3, hP3⟩ IH
  dsimp only at hi G3 hP3 IH ⊢
  by_cases hlt : i < an
  · obtain ⟨hcs, hxs, hxl⟩ := hA.2.2 i hlt
    obtain ⟨hc, hq, hby'⟩ := hS i hlt
    obtain ⟨rfl, hab⟩ := hA.2.1 (by omega)
    generalize A i = ai at hcs hxs hxl hc hq hby'
    obtain ⟨kind, cid, seq, av, xs⟩ := ai
    dsimp only at hcs hxs hxl hc hq hby'
    obtain ⟨xa, xcap, rfl⟩ : ∃ a c, av = .slice a xs.length c := by
      obtain ⟨a, c, _, _, _, _, _, e, _⟩ := hxs
      exact ⟨a, c, e⟩
    simp only [daC] at hcs
    have c0 : acs[aoff + i * 4]? = some (.int .i64 kind) := hcs.get 0 _ rfl
    have c1 : acs[aoff + i * 4 + 1]? = some (.int .u64 cid) := hcs.get 1 _ rfl
    have c2 : acs[aoff + i * 4 + 2]? = some (.int .u64 seq) := hcs.get 2 _ rfl
    have c3 : acs[aoff + i * 4 + 3]? = some (.slice xa xs.length xcap) := hcs.get 3 _ rfl
    have hab3 := G3.fr.get hab (by simp)
    have nap : ab ≠ pb := by have := lt_of_at hab; omega
    have H := ((Holds.start w3 []).add false hP3 (by simp) (by simp)).add false hab3 (by simpa using nap) (by simp)
    refine Run.seq ?_
    refine Run.seq ?_
    (refine Run.region ?_; intro K hK)
    refine Ops.pure H (X.move rfl) rfl rfl rfl ?_
    refine Ops.pure H (X.move rfl) rfl rfl rfl ?_
    refine Ops.pure H (X.len_slice rfl rfl rfl) rfl rfl rfl ?_
    refine Ops.pure H (X.cmp rfl rfl rfl) rfl rfl rfl ?_
    (refine Ops.nil (hK _ _ ?_); clear hK K)
    refine Run.cond_dec rfl (fun h44 => ?x0) (fun h44 => ?y0)
    case' y0 => exfalso; omega
    case' x0 =>
      refine Run.skip ?_
      refine Run.seq ?_
      refine Run.block ?_
      refine Run.seq ?_
      (refine Run.region ?_; intro K hK)
      refine Ops.pure H (X.move rfl) rfl rfl rfl ?_
      refine Ops.pure H (X.move rfl) rfl rfl rfl ?_
      refine Ops.pure H (X.indexAddr rfl rfl (by omega) rfl rfl rfl rfl) rfl rfl rfl ?_
      refine Ops.pure H (X.fieldAddr rfl rfl rfl rfl rfl rfl) rfl rfl rfl ?_
      refine Ops.pure H (X.load1 rfl rfl rfl rfl Pick.head (by assumption)) rfl rfl rfl ?_
      refine Ops.pure H (X.cmp rfl rfl rfl) rfl rfl rfl ?_
      (refine Ops.nil (hK _ _ ?_); clear hK K)
      refine Run.cond_dec rfl (fun h52 => ?x1) (fun h52 => ?y1)
      case' y1 =>
        refine Run.skip ?_
        refine Run.inBlock ?_
        (refine Run.region ?_; intro K hK)
        refine Ops.pure H (X.move rfl) rfl rfl rfl ?_
        refine Ops.pure H (X.succ rfl rfl (by omega)) rfl rfl rfl ?_
        refine Ops.pure H (X.assign rfl) rfl rfl rfl ?_
        (refine Ops.nil (hK _ _ ?_); clear hK K)
      case' x1 =>
        (refine Run.draw H [] [0, 1, 2, 3, 4, 5, 6, 7, 8, 9, 10, 11, 12, 13, 14, 15, 16, 17, 18, 19, 20] ?_; clear H; intro K hK w H)
        refine Draw.take0 rfl (X.move rfl) rfl rfl rfl (by decide +kernel) ?_
        refine Draw.take0 rfl (X.nilCheck rfl) rfl rfl rfl (by decide +kernel) ?_
        refine Draw.take0 rfl (X.fieldAddr rfl rfl rfl rfl rfl rfl) rfl rfl rfl (by decide +kernel) ?_
        refine Draw.take rfl (X.load1 rfl rfl rfl rfl (.tail .head) rfl) rfl rfl rfl (by decide +kernel) ?_
        refine Draw.take0 rfl (X.move rfl) rfl rfl rfl (by decide +kernel) ?_
        refine Draw.take0 rfl (X.move rfl) rfl rfl rfl (by decide +kernel) ?_
        refine Draw.take0 rfl (X.indexAddr rfl rfl (by omega) rfl rfl rfl rfl) rfl rfl rfl (by decide +kernel) ?_
        refine Draw.take0 rfl (X.fieldAddr rfl rfl rfl rfl rfl rfl) rfl rfl rfl (by decide +kernel) ?_
        refine Draw.take rfl (X.load1 rfl rfl rfl rfl Pick.head (by assumption)) rfl rfl rfl (by decide +kernel) ?_
        refine Draw.take0 rfl (X.move rfl) rfl rfl rfl (by decide +kernel) ?_
        refine Draw.take0 rfl (X.move rfl) rfl rfl rfl (by decide +kernel) ?_
        refine Draw.take0 rfl (X.indexAddr rfl rfl (by omega) rfl rfl rfl rfl) rfl rfl rfl (by decide +kernel) ?_
        refine Draw.take0 rfl (X.fieldAddr rfl rfl rfl rfl rfl rfl) rfl rfl rfl (by decide +kernel) ?_
        refine Draw.take rfl (X.load1 rfl rfl rfl rfl Pick.head (by assumption)) rfl rfl rfl (by decide +kernel) ?_
        refine Draw.take0 rfl (X.move rfl) rfl rfl rfl (by decide +kernel) ?_
        refine Draw.take0 rfl (X.move rfl) rfl rfl rfl (by decide +kernel) ?_
        refine Draw.take0 rfl (X.indexAddr rfl rfl (by omega) rfl rfl rfl rfl) rfl rfl rfl (by decide +kernel) ?_
        refine Draw.take0 rfl (X.fieldAddr rfl rfl rfl rfl rfl rfl) rfl rfl rfl (by decide +kernel) ?_
        refine Draw.take rfl (X.load1 rfl rfl rfl rfl Pick.head (by assumption)) rfl rfl rfl (by decide +kernel) ?_
    · refine Draw.eff rfl rfl (by decide +kernel) (Y.call rfl rfl (by first | assumption | decide +kernel) rfl (own_any _ _ xs (hxs.ext (G3.fr.then H.fr)) hxl) rfl ?_)
      rintro v w5 ⟨hA5, hf5⟩
      obtain ⟨va, vcap, rfl⟩ := hA5.slice
      replace H := H.ext hf5
      refine ⟨H.at_, ?_⟩
      have G5 := G3.ext H.fr
      skip
      refine Draw.eff rfl rfl (by decide +kernel) (Y.call rfl rfl (by first | assumption | decide +kernel) rfl (one_put z _ n W cid seq _ xs G5 hA5 h1 h2 hc hq hby') rfl ?_)
      rintro v w6 ⟨rfl, W', hwb', G6, hs1, hs2, hN6, hf6, _⟩
      have hP5 := H.pick (b := pb) (by first | exact .head | exact .tail .head | exact .tail (.tail .head) | exact .tail (.tail (.tail .head)) | exact .tail (.tail (.tail (.tail .head))) | exact .tail (.tail (.tail (.tail (.tail .head)))) | exact .tail (.tail (.tail (.tail (.tail (.tail .head))))))
      have hP6 := hf6.get hP5 (fun hm => (G5.pw.notFoot hP5 (by decide) (by decide) (by decide)) (footP_foot hm))
      have hab6 := G6.fr.get hab (by simp)
      clear H
      have H := ((Holds.start w6 []).add false hP6 (by simp) (by simp)).add false hab6 (by simpa using nap) (by simp)
      refine ⟨H.at_, ?_⟩
      (refine Draw.done (by decide +kernel) (hK _ _ ?_); clear hK K)
      refine Run.inBlock ?_
      (refine Run.region ?_; intro K hK)
      refine Ops.pure H (X.move rfl) rfl rfl rfl ?_
      refine Ops.pure H (X.succ rfl rfl (by omega)) rfl rfl rfl ?_
      refine Ops.pure H (X.assign rfl) rfl rfl rfl ?_
      (refine Ops.nil (hK _ _ ?_); clear hK K)
      refine (IH (i + 1, W') _ (by dsimp only; omega) ⟨by dsimp only; omega, G6.ext H.fr, ?_⟩).weak (by repeat (first | exact trivial | refine ⟨rfl, ?_⟩))
      dsimp only
      rw [hwb']
      exact H.pick (by first | exact .head | exact .tail .head | exact .tail (.tail .head) | exact .tail (.tail (.tail .head)) | exact .tail (.tail (.tail (.tail .head))) | exact .tail (.tail (.tail (.tail (.tail .head)))) | exact .tail (.tail (.tail (.tail (.tail (.tail .head))))))
    · exact (IH (i + 1, W) _ (by dsimp only; omega) ⟨by dsimp only; omega, G3.ext H.fr, H.pick (by first | exact .head | exact .tail .head | exact .tail (.tail .head) | exact .tail (.tail (.tail .head)) | exact .tail (.tail (.tail (.tail .head))) | exact .tail (.tail (.tail (.tail (.tail .head)))) | exact .tail (.tail (.tail (.tail (.tail (.tail .head))))))⟩).weak (by repeat (first | exact trivial | refine ⟨rfl, ?_⟩))
  · obtain rfl : i = an := by omega
    clear IH
    have H := (Holds.start w3 []).add false hP3 (by simp) (by simp)
    refine Run.seq ?_
    refine Run.seq ?_
    (refine Run.region ?_; intro K hK)
    refine Ops.pure H (X.move rfl) rfl rfl rfl ?_
    refine Ops.pure H (X.move rfl) rfl rfl rfl ?_
    refine Ops.pure H (X.len_slice rfl rfl rfl) rfl rfl rfl ?_
    refine Ops.pure H (X.cmp rfl rfl rfl) rfl rfl rfl ?_
    (refine Ops.nil (hK _ _ ?_); clear hK K)
    refine Run.cond_dec rfl (fun h44 => ?x2) (fun h44 => ?y2)
    case' y2 =>
      refine Run.exit rfl ?_
      refine Run.seq ?_
      (refine Run.region ?_; intro K hK)
      refine Ops.pure H (X.move rfl) rfl rfl rfl ?_
      refine Ops.pure H (X.nilCheck rfl) rfl rfl rfl ?_
      refine Ops.pure H (X.fieldAddr rfl rfl rfl rfl rfl rfl) rfl rfl rfl ?_
      refine Ops.pure H (X.load1 rfl rfl rfl rfl Pick.head rfl) rfl rfl rfl ?_
    case' x2 => exfalso; omega
    refine Ops.eff rfl (Y.call rfl rfl (by first | assumption | decide +kernel) rfl (Bytes_any _ W (G3.pw.ext H.fr) (G3.wok h1 h2)) rfl ?_)
    rintro v w4 ⟨ids, i1, i2, i3, hO4, hf4⟩
    have hload := G3.load h1 h2 i1 i2 i3
    have hByt := G3.byt h1 h2 i1
    have hWn := G3.nw
    have hle := encW_le G3 i1 i3
    have hge := len_encW W.size.toNat W.N (st W) ids
    obtain ⟨B, hB⟩ : ∃ B, B = encW W.size.toNat W.N (st W) ids := ⟨_, rfl⟩
    rw [← hB] at hO4 hload hByt hle hge
    obtain ⟨bb, bcap, bcs, rfl, hbc1, hbc2, hbz, hbb4, hbl, hbC⟩ := hO4.get (by omega)
    have hzw := G3.fr.size
    have hz3 := H.fr.size
    have hP4 := hf4.get (H.pick (b := pb) (by first | exact .head | exact .tail .head | exact .tail (.tail .head) | exact .tail (.tail (.tail .head)) | exact .tail (.tail (.tail (.tail .head))) | exact .tail (.tail (.tail (.tail (.tail .head)))) | exact .tail (.tail (.tail (.tail (.tail (.tail .head))))))) (by simp)
    have G4 := (G3.ext H.fr).ext hf4
    have hBb4 : Bys w4 (.slice (some ⟨bb, 0, none⟩) B.length bcap) B := ⟨_, _, bb, 0, bcs, 5, (0, 0), rfl, hbc1, hbc2, fun _ => ⟨rfl, hbb4⟩, by simpa using hbC⟩
    have hbb0 : z.heap.size ≤ bb := by omega
    clear H
    have npb : pb ≠ bb := ne_of_ty hP4 hbb4 (by decide)
    have H := ((Holds.start w4 []).add false hP4 (by simp) (by simp)).add false hbb4 (by simpa using npb.symm) (by simp)
    refine Ops.pure H (X.assign rfl) rfl rfl rfl ?_
    (refine Ops.nil (hK _ _ ?_); clear hK K)
    refine Run.seq ?_
    (refine Run.region ?_; intro K hK)
    refine Ops.pure H (X.move rfl) rfl rfl rfl ?_
    refine Ops.eff rfl (Y.call rfl rfl (by first | assumption | decide +kernel) rfl (own_one _ _ B (hBb4.ext H.fr) (by omega)) rfl ?_)
    rintro v w5 ⟨nb, ncs, rfl, hnb5, hncl, hnC, hnz, hf5⟩
    have F5 := H.fr.then hf5
    clear H
    have H := Holds.start w5 []
    skip
    refine Ops.eff rfl (Y.call rfl rfl (by first | assumption | decide +kernel) rfl (load_any _ nb 0 _ ncs (0, 0) B (H.fr.get hnb5 (by simp)) (by omega) (by omega) hnC hByt) rfl ?_)
    rintro v w6 ⟨hf6, hQ⟩
    rcases hQ with ⟨D, jds, tail, rfl, hY6, hYok, hYl, htl, hYe, hYf⟩ | ⟨rfl, hno⟩
    rotate_left
    · exact (hno _ _ _ _ ids hload (beL_len _ _) (fun x => by rw [i1, st]; cases W.m x <;> simp) i2 (by rw [hB, G3.nw, Int.toNat_natCast])).elim
    rw [hload] at hYl
    simp only [Option.some.injEq, Prod.mk.injEq] at hYl
    obtain ⟨y1, y2, y3, rfl⟩ := hYl
    have F56 := H.fr
    have hz56 := H.fr.size
    have hz45 := F5.size
    have G6 : Go1 z _ n W := ((G4.ext F5).ext H.fr).ext hf6
    have hYn : D.size = n := by
      have := hYok.size.1
      omega
    have K6 : Go1 z _ n D := ⟨G6.fr, hY6, fun b hb => by have := hYf b hb; have := G4.fr.size; omega, hYn, hYok.N, fun x s hx => G3.u x s (by rw [y3]; exact hx)⟩
    have hDj : Dj W D := fun b hb hb' => by
      have h7 := G4.pw.lt hb
      have h8 := hYf b hb'
      omega
    have hP6 := hf6.get (H.fr.get (F5.get hP4 (by simp)) (by simp)) (by simp)
    have hbb6 := hf6.get (H.fr.get (F5.get hbb4 (by simp)) (by simp)) (by simp)
    clear H hf6 hYf hYe hY6 hYok F56 hz56 F5 hf5 hnb5 hnC hncl hnz G4 hBb4 hO4 hf4 hz3 hzw G3 hP3 hP4 hbb4
    rename World => w6
    have H := ((Holds.start w6 []).add false hP6 (by simp) (by simp)).add false hbb6 (by simpa using npb.symm) (by simp)
    refine Ops.pure H (X.move rfl) rfl rfl rfl ?_
    refine Ops.pure H (X.extract rfl rfl) rfl rfl rfl ?_
    refine Ops.pure H (X.extract rfl rfl) rfl rfl rfl ?_
    refine Ops.pure H (X.assign rfl) rfl rfl rfl ?_
    refine Ops.pure H (X.assign rfl) rfl rfl rfl ?_
    (refine Ops.nil (hK _ _ ?_); clear hK K)
    refine Run.seq ?_
    refine Run.seq ?_
    (refine Run.draw H [] [0, 1, 2, 3, 4, 5, 6, 7, 10, 11, 8, 9, 12, 13, 14, 15, 16, 17, 18] ?_; clear H; intro K hK w H)
    refine Draw.take0 rfl (X.move rfl) rfl rfl rfl (by decide +kernel) ?_
    refine Draw.take0 rfl (X.cmp rfl rfl rfl) rfl rfl rfl (by decide +kernel) ?_
    refine Draw.take0 rfl (X.move rfl) rfl rfl rfl (by decide +kernel) ?_
    refine Draw.take0 rfl (X.move rfl) rfl rfl rfl (by decide +kernel) ?_
    refine Draw.take0 rfl (X.ptrNil rfl rfl rfl rfl rfl) rfl rfl rfl (by decide +kernel) ?_
    refine Draw.take0 rfl (X.pick_f rfl rfl) rfl rfl rfl (by decide +kernel) ?_
    refine Draw.take0 rfl (X.move rfl) rfl rfl rfl (by decide +kernel) ?_
    refine Draw.take0 rfl (X.move rfl) rfl rfl rfl (by decide +kernel) ?_
    refine Draw.take0 rfl (X.move rfl) rfl rfl rfl (by decide +kernel) ?_
    have hbC2 : Cs bcs 0 B.length (u8s B) := by simpa using hbC
    have hBys6 : ∀ {w' : World}, w'.heap[bb]? = some (row bcs 5) → Bys w' (.slice (some ⟨bb, 0, none⟩) B.length bcap) B := fun hh => ⟨_, _, bb, 0, bcs, 5, (0, 0), rfl, hbc1, hbc2, fun _ => ⟨rfl, hh⟩, hbC2⟩
    refine Draw.take rfl (X.bytesStr rfl .head hbC2 rfl rfl rfl rfl rfl rfl rfl) rfl rfl rfl (by decide +kernel) ?_
    refine Draw.eff rfl rfl (by decide +kernel) (Y.call rfl rfl (by first | assumption | decide +kernel) rfl (Bytes_any _ D (K6.pw.ext H.fr) (K6.wok h1 h2)) rfl ?_)
    rintro v w7 ⟨jds2, j1, j2, j3, hO7, hf7⟩
    have hYB : encW D.size.toNat D.N (st D) jds2 = B := by rw [hB]; exact (enc_same y3 (by rw [G6.nw, hYn]) y2 i1 i2 j1 j2).symm
    rw [hYB] at hO7
    replace H := H.ext hf7
    refine ⟨H.at_, ?_⟩
    refine Draw.eff rfl rfl (by decide +kernel) (Y.bytes hO7.bys rfl rfl rfl rfl rfl rfl rfl rfl ?_)
    refine ⟨H.at_, ?_⟩
    refine Draw.take0 rfl (X.strNe rfl rfl) rfl rfl rfl (by decide +kernel) ?_
    refine Draw.take0 rfl (X.pick_f rfl rfl) rfl rfl rfl (by decide +kernel) ?_
    refine Draw.take0 rfl (X.move rfl) rfl rfl rfl (by decide +kernel) ?_
    refine Draw.split_ndec rfl rfl rfl (fun h100 => ?x3) (fun h100 => ?y3)
    case' y3 =>
      refine Draw.take0 rfl (X.move rfl) rfl rfl rfl (by decide +kernel) ?_
      refine Draw.take0 rfl (X.len_slice rfl rfl rfl) rfl rfl rfl (by decide +kernel) ?_
      refine Draw.take0 rfl (X.cmp rfl rfl rfl) rfl rfl rfl (by decide +kernel) ?_
      refine Draw.take0 rfl (X.pick_f rfl rfl) rfl rfl rfl (by decide +kernel) ?_
      (refine Draw.done (by decide +kernel) (hK _ _ ?_); clear hK K)
      refine Run.cond_dec rfl (fun h103 => ?x4) (fun h103 => ?y4)
      case' y4 =>
        refine Run.skip ?_
        refine Run.seq ?_
        refine Run.seq ?_
        (refine Run.region ?_; intro K hK)
        refine Ops.pure H (X.assign rfl) rfl rfl rfl ?_
        (refine Ops.nil (hK _ _ ?_); clear hK K)
        refine Run.block ?_
      case' x4 => exfalso; omega
    case' x3 =>
      refine Draw.pass rfl rfl rfl rfl (by decide +kernel) ?_
      refine Draw.pass rfl rfl rfl rfl (by decide +kernel) ?_
      refine Draw.pass rfl rfl rfl rfl (by decide +kernel) ?_
      refine Draw.take0 rfl (X.pick_t rfl rfl) rfl rfl rfl (by decide +kernel) ?_
      (refine Draw.done (by decide +kernel) (hK _ _ ?_); clear hK K)
      refine Run.cond_true rfl ?_
      refine Run.seq ?_
      (refine Run.region ?_; intro K hK)
      refine Ops.pure H (X.assign rfl) rfl rfl rfl ?_
      (refine Ops.nil (hK _ _ ?_); clear hK K)
    · exact absurd rfl ‹¬ (strOfNums B).toList = (strOfNums B).toList›
    have hPl := H.pick (b := pb) (by first | exact .head | exact .tail .head | exact .tail (.tail .head) | exact .tail (.tail (.tail .head)) | exact .tail (.tail (.tail (.tail .head))) | exact .tail (.tail (.tail (.tail (.tail .head)))) | exact .tail (.tail (.tail (.tail (.tail (.tail .head))))))
    have hbl' := H.pick (b := bb) (by first | exact .head | exact .tail .head | exact .tail (.tail .head) | exact .tail (.tail (.tail .head)) | exact .tail (.tail (.tail (.tail .head))) | exact .tail (.tail (.tail (.tail (.tail .head)))) | exact .tail (.tail (.tail (.tail (.tail (.tail .head))))))
    refine Run.rounds (fun (s : Nat × WS × WS) => [(2, .slice ma mn mcap), (3, .int .u16 (at_ : Nat)), (4, .int .u8 (by_ : Nat)), (11, .pointer (some ⟨pb, 0, none⟩)), (14, .slice (some ⟨bb, 0, none⟩) B.length bcap), (15, .pointer (some ⟨s.2.2.wb, 0, none⟩)), (17, .int .i64 (s.1 : Nat))])
      (fun s w' => s.1 ≤ mn ∧ Go1 z w' n s.2.1 ∧ Go1 z w' n s.2.2 ∧ Dj s.2.1 s.2.2 ∧ st s.2.1 = st s.2.2 ∧ s.2.1.N = s.2.2.N ∧ w'.heap[pb]? = some (row [.pointer (some ⟨s.2.1.wb, 0, none⟩), .pointer (some ⟨db, 0, none⟩)] 36) ∧ w'.heap[bb]? = some (row bcs 5)) (fun s => mn - s.1) (0, W, D) (by repeat (first | exact trivial | refine ⟨rfl, ?_⟩))
      ⟨by dsimp only; omega, G6.ext H.fr, K6.ext H.fr, hDj, y3, y2, hPl, hbl'⟩ ?_
    clear H G6 K6 hDj y3 y2 hP6 hbb6 hPl hbl' hO7 hf7 j1 j2 j3 hYB hYn y1
    rintro ⟨i, W2, D2⟩ w8 ⟨hi2, G8, K8, hDj, hss, hNN, hP8, hbb8⟩ IH
    dsimp only at hi2 G8 K8 hDj hss hNN hP8 hbb8 IH ⊢
    by_cases hlt2 : i < mn
    · obtain ⟨hcs, hxs, hxl⟩ := hM.2.2 i hlt2
      obtain ⟨hc, hq, hby'⟩ := hMS i hlt2
      obtain ⟨rfl, hab⟩ := hM.2.1 (by omega)
      generalize M i = ai at hcs hxs hxl hc hq hby'
      obtain ⟨kind, cid, seq, av, xs⟩ := ai
      dsimp only at hcs hxs hxl hc hq hby'
      obtain ⟨xa, xcap, rfl⟩ : ∃ a c, av = .slice a xs.length c := by
        obtain ⟨a, c, _, _, _, _, _, e, _⟩ := hxs
        exact ⟨a, c, e⟩
      simp only [daC] at hcs
      have hab8 := G8.fr.get hab (by simp)
      have H := (Holds.start w8 []).add false hab8 (by simp) (by simp)
      refine Run.seq ?_
      refine Run.seq ?_
      (refine Run.region ?_; intro K hK)
      refine Ops.pure H (X.move rfl) rfl rfl rfl ?_
      refine Ops.pure H (X.move rfl) rfl rfl rfl ?_
      refine Ops.pure H (X.len_slice rfl rfl rfl) rfl rfl rfl ?_
      refine Ops.pure H (X.cmp rfl rfl rfl) rfl rfl rfl ?_
      (refine Ops.nil (hK _ _ ?_); clear hK K)
      refine Run.cond_dec rfl (fun h107 => ?x5) (fun h107 => ?y5)
      case' y5 => exfalso; omega
      case' x5 =>
        refine Run.skip ?_
        refine Run.seq ?_
        refine Run.block ?_
        refine Run.seq ?_
        (refine Run.region ?_; intro K hK)
        refine Ops.pure H (X.move rfl) rfl rfl rfl ?_
        refine Ops.pure H (X.move rfl) rfl rfl rfl ?_
        refine Ops.pure H (X.indexAddr rfl rfl (by omega) rfl rfl rfl rfl) rfl rfl rfl ?_
        refine Ops.pure H (X.loadN rfl rfl rfl Pick.head (by assumption)) rfl rfl rfl ?_
        (refine Ops.eff rfl (Y.alloc rfl rfl rfl H ?_); intro b18 w H0 hb18; clear H; have H := H0; clear H0)
        (refine Ops.eff rfl (Y.storeO rfl rfl rfl rfl rfl rfl H Upd.head rfl ?_); intro w H0; clear H; have H := H0; clear H0)
        (refine Ops.nil (hK _ _ ?_); clear hK K)
      have F18 := H.fr
      have hcp := H.pick (b := b18) (by first | exact .head | exact .tail .head | exact .tail (.tail .head) | exact .tail (.tail (.tail .head)) | exact .tail (.tail (.tail (.tail .head))) | exact .tail (.tail (.tail (.tail (.tail .head)))) | exact .tail (.tail (.tail (.tail (.tail (.tail .head))))))
      have hzw8 := G8.fr.size
      have hb18' : z.heap.size ≤ b18 := by omega
      have G18 := G8.ext F18
      have K18 := K8.ext F18
      have hP18 := F18.get hP8 (by simp)
      have hbb18 := F18.get hbb8 (by simp)
      have n18p : b18 ≠ pb := ne_of_ty hcp hP18 (by decide)
      clear H G8 K8 hP8 hbb8 hab8
      rename World => w18
      have H := ((Holds.start w18 []).add false hcp (by simp) (by simp)).add false hP18 (by simpa using n18p.symm) (by simp)
      refine Run.seq ?_
      (refine Run.draw H [8] [0, 1, 2, 3, 4, 5, 6, 7, 8, 9, 10, 11, 12, 13, 14, 15] ?_; clear H; intro K hK w H)
      refine Draw.take0 rfl (X.move rfl) rfl rfl rfl (by decide +kernel) ?_
      refine Draw.take0 rfl (X.nilCheck rfl) rfl rfl rfl (by decide +kernel) ?_
      refine Draw.take0 rfl (X.fieldAddr rfl rfl rfl rfl rfl rfl) rfl rfl rfl (by decide +kernel) ?_
      refine Draw.take rfl (X.load1 rfl rfl rfl rfl Pick.head rfl) rfl rfl rfl (by decide +kernel) ?_
      refine Draw.take0 rfl (X.fieldAddr rfl rfl rfl rfl rfl rfl) rfl rfl rfl (by decide +kernel) ?_
      refine Draw.take rfl (X.load1 rfl rfl rfl rfl (.tail .head) rfl) rfl rfl rfl (by decide +kernel) ?_
      refine Draw.take0 rfl (X.fieldAddr rfl rfl rfl rfl rfl rfl) rfl rfl rfl (by decide +kernel) ?_
      refine Draw.take rfl (X.load1 rfl rfl rfl rfl (.tail .head) rfl) rfl rfl rfl (by decide +kernel) ?_
      have hz19 := H.fr.size
      refine Draw.last rfl rfl (by decide +kernel) (Y.call rfl rfl (by first | assumption | decide +kernel) rfl (Ask_fresh _ W2 cid seq (G18.pw.ext H.fr) (askB_short (G18.short cid))) rfl ?_)
      rintro v w19 ⟨hf19, c, rfl, hC19⟩
      replace H := H.ext hf19
      replace hC19 := hC19.low hz19
      refine Draw2.take rfl (X.move rfl) rfl rfl rfl (by decide +kernel) ?_
      refine Draw2.take rfl (X.extract rfl rfl) rfl rfl rfl (by decide +kernel) ?_
      refine Draw2.take rfl (X.extract rfl rfl) rfl rfl rfl (by decide +kernel) ?_
      refine Draw2.take rfl (X.extract rfl rfl) rfl rfl rfl (by decide +kernel) ?_
      refine Draw2.take rfl (X.assign rfl) rfl rfl rfl (by decide +kernel) ?_
      refine Draw2.take rfl (X.assign rfl) rfl rfl rfl (by decide +kernel) ?_
      refine Draw2.take rfl (X.assign rfl) rfl rfl rfl (by decide +kernel) ?_
      (refine Draw2.done (by decide +kernel) (hK _ _ ?_); clear hK K)
      have hC20 := hC19.ext (w' := w19) (Fr.refl _ _)
      have F20 := H.fr
      have hcp20 := H.pick (b := b18) (by first | exact .head | exact .tail .head | exact .tail (.tail .head) | exact .tail (.tail (.tail .head)) | exact .tail (.tail (.tail (.tail .head))) | exact .tail (.tail (.tail (.tail (.tail .head)))) | exact .tail (.tail (.tail (.tail (.tail (.tail .head))))))
      have hP20 := H.pick (b := pb) (by first | exact .head | exact .tail .head | exact .tail (.tail .head) | exact .tail (.tail (.tail .head)) | exact .tail (.tail (.tail (.tail .head))) | exact .tail (.tail (.tail (.tail (.tail .head)))) | exact .tail (.tail (.tail (.tail (.tail (.tail .head))))))
      clear H
      have H := (Holds.start w19 []).add false hcp20 (by simp) (by simp)
      refine Run.seq ?_
      (refine Run.region ?_; intro K hK)
      refine Ops.pure H (X.move rfl) rfl rfl rfl ?_
      refine Ops.pure H (X.fieldAddr rfl rfl rfl rfl rfl rfl) rfl rfl rfl ?_
      refine Ops.pure H (X.load1 rfl rfl rfl rfl Pick.head rfl) rfl rfl rfl ?_
      refine Ops.pure H (X.fieldAddr rfl rfl rfl rfl rfl rfl) rfl rfl rfl ?_
      refine Ops.pure H (X.load1 rfl rfl rfl rfl Pick.head rfl) rfl rfl rfl ?_
      have hz20 := H.fr.size
      have F21 := F20.then H.fr
      refine Ops.eff rfl (Y.call rfl rfl (by first | assumption | decide +kernel) rfl (Ask_fresh _ D2 cid seq (K18.pw.ext F21) (askB_short (K18.short cid))) rfl ?_)
      rintro v w20 ⟨hf20, d, rfl, hD20⟩
      replace hD20 := hD20.low hz20
      rw [← hss] at hD20
      replace F21 := F21.then hf20
      have hcp21 := F21.get hcp (by simp)
      have hP21 := F21.get hP18 (by simp)
      have G21 := G18.ext F21
      have K21 := K18.ext F21
      obtain ⟨e1, he1⟩ : ∃ e, e = (if seq = 0 then (0 : Int) else askK (st W2 cid) seq) := ⟨_, rfl⟩
      obtain ⟨e2, he2⟩ : ∃ e, e = (if seq = 0 then (1 : Int) else 0) := ⟨_, rfl⟩
      obtain ⟨A0, hA0⟩ : ∃ e, e = (if seq = 0 then ([] : List Int) else askB (st W2 cid) seq) := ⟨_, rfl⟩
      rw [← hA0] at hC20 hD20
      rw [show askK (st D2 cid) seq = askK (st W2 cid) seq by rw [hss]]
      rw [← he1, ← he2]
      obtain ⟨cb, cds, ct, hcb19, hct, hcz, hcB⟩ := hC20.blk (G18.ext F20).pw.at_
      have hcb := (H.fr.then hf20).get hcb19 (by simp)
      have hclt := lt_of_at hcb19
      obtain ⟨dd, dds, dt, hdb, hdt, hdz, hdB⟩ := hD20.blk K21.pw.at_
      have hlW := G18.pw.lt (.inl rfl)
      have hlD := K18.pw.lt (.inl rfl)
      have ncd : dd ≠ cb := by
        have hne : W2.wb ≠ D2.wb := fun e => hDj _ (.inl rfl) (.inl e)
        rcases hcz with rfl | hcz <;> rcases hdz with rfl | hdz
        · exact hne.symm
        · have := F20.size
          omega
        · omega
        · omega
      have n1 : cb ≠ pb := ne_of_ty hcb hP21 (by rcases hct with rfl | rfl <;> decide)
      have n2 : cb ≠ b18 := ne_of_ty hcb hcp21 (by rcases hct with rfl | rfl <;> decide)
      have n3 : dd ≠ pb := ne_of_ty hdb hP21 (by rcases hdt with rfl | rfl <;> decide)
      have n4 : dd ≠ b18 := ne_of_ty hdb hcp21 (by rcases hdt with rfl | rfl <;> decide)
      have hbb21 := F21.get hbb18 (by simp)
      clear H
      have H := ((((Holds.start w20 []).add false hcp21 (by simp) (by simp)).add false hP21 (by simpa using n18p.symm) (by simp)).add false hcb (by simpa using ⟨n1, n2⟩) (by simp)).add false hdb (by simpa using ⟨ncd, n3, n4⟩) (by simp)
      refine Ops.pure H (X.move rfl) rfl rfl rfl ?_
      refine Ops.pure H (X.extract rfl rfl) rfl rfl rfl ?_
      refine Ops.pure H (X.extract rfl rfl) rfl rfl rfl ?_
      refine Ops.pure H (X.extract rfl rfl) rfl rfl rfl ?_
      refine Ops.pure H (X.assign rfl) rfl rfl rfl ?_
      refine Ops.pure H (X.assign rfl) rfl rfl rfl ?_
      refine Ops.pure H (X.assign rfl) rfl rfl rfl ?_
      (refine Ops.nil (hK _ _ ?_); clear hK K)
      refine Run.seq ?_
      (refine Run.draw H [] (0 :: 1 :: 2 :: 3 :: 4 :: 5 :: 6 :: 7 :: 8 :: 9 :: 10 :: 11 :: 12 :: 13 :: 14 :: 15 :: 16 :: 17 :: 18 :: 19 :: 20 :: 21 :: 22 :: 23 :: 24 :: 25 :: 28 :: 29 :: 30 :: 31 :: 32 :: 33 :: 34 :: 26 :: 27 :: 35 :: 36 :: 37 :: 38 :: []) ?_; clear H; intro K hK w H)
      refine Draw.take0 rfl (X.move rfl) rfl rfl rfl (by decide +kernel) ?_
      refine Draw.take0 rfl (X.move rfl) rfl rfl rfl (by decide +kernel) ?_
      refine Draw.take0 rfl (X.cmp rfl rfl rfl) rfl rfl rfl (by decide +kernel) ?_
      refine Draw.take0 rfl (X.move rfl) rfl rfl rfl (by decide +kernel) ?_
      refine Draw.split_ndec rfl rfl rfl (fun h141 => ?x6) (fun h141 => ?y6)
      case' y6 =>
        refine Draw.take0 rfl (X.move rfl) rfl rfl rfl (by decide +kernel) ?_
      case' x6 => exfalso; omega
      refine Draw.take rfl (X.bytesG (xs := A0) (fun w hw => hcB w (hw _ (List.mem_cons_of_mem _ (List.mem_cons_self ..)))) rfl rfl rfl rfl rfl rfl rfl) rfl rfl rfl (by decide +kernel) ?_
      refine Draw.take0 rfl (X.move rfl) rfl rfl rfl (by decide +kernel) ?_
      refine Draw.take rfl (X.bytesG (xs := A0) (fun w hw => hdB w (hw _ (List.mem_cons_self ..))) rfl rfl rfl rfl rfl rfl rfl) rfl rfl rfl (by decide +kernel) ?_
      refine Draw.take0 rfl (X.strNe rfl rfl) rfl rfl rfl (by decide +kernel) ?_
      refine Draw.take0 rfl (X.pick_f rfl rfl) rfl rfl rfl (by decide +kernel) ?_
      refine Draw.take0 rfl (X.move rfl) rfl rfl rfl (by decide +kernel) ?_
      refine Draw.split_ndec rfl rfl rfl (fun h148 => ?x7) (fun h148 => ?y7)
      case' y7 =>
        refine Draw.take0 rfl (X.move rfl) rfl rfl rfl (by decide +kernel) ?_
        refine Draw.take0 rfl (X.move rfl) rfl rfl rfl (by decide +kernel) ?_
        refine Draw.take0 rfl (X.cmp rfl rfl rfl) rfl rfl rfl (by decide +kernel) ?_
        refine Draw.take0 rfl (X.pick_f rfl rfl) rfl rfl rfl (by decide +kernel) ?_
        refine Draw.take0 rfl (X.move rfl) rfl rfl rfl (by decide +kernel) ?_
        refine Draw.split_ndec rfl rfl rfl (fun h153 => ?x8) (fun h153 => ?y8)
        case' y8 =>
          refine Draw.take0 rfl (X.move rfl) rfl rfl rfl (by decide +kernel) ?_
          refine Draw.take0 rfl (X.nilCheck rfl) rfl rfl rfl (by decide +kernel) ?_
          refine Draw.take0 rfl (X.fieldAddr rfl rfl rfl rfl rfl rfl) rfl rfl rfl (by decide +kernel) ?_
          refine Draw.take rfl (X.load1 rfl rfl rfl rfl (.tail (.tail .head)) rfl) rfl rfl rfl (by decide +kernel) ?_
          refine Draw.take0 rfl (X.fieldAddr rfl rfl rfl rfl rfl rfl) rfl rfl rfl (by decide +kernel) ?_
          refine Draw.take rfl (X.load1 rfl rfl rfl rfl (.tail (.tail (.tail .head))) rfl) rfl rfl rfl (by decide +kernel) ?_
          refine Draw.take0 rfl (X.fieldAddr rfl rfl rfl rfl rfl rfl) rfl rfl rfl (by decide +kernel) ?_
          refine Draw.take rfl (X.load1 rfl rfl rfl rfl (.tail (.tail (.tail .head))) rfl) rfl rfl rfl (by decide +kernel) ?_
          refine Draw.take0 rfl (X.fieldAddr rfl rfl rfl rfl rfl rfl) rfl rfl rfl (by decide +kernel) ?_
          refine Draw.take rfl (X.load1 rfl rfl rfl rfl (.tail (.tail (.tail .head))) rfl) rfl rfl rfl (by decide +kernel) ?_
          refine Draw.take0 rfl (X.move rfl) rfl rfl rfl (by decide +kernel) ?_
          refine Draw.take0 rfl (X.fieldAddr rfl rfl rfl rfl rfl rfl) rfl rfl rfl (by decide +kernel) ?_
          refine Draw.take rfl (X.load1 rfl rfl rfl rfl (.tail (.tail (.tail .head))) rfl) rfl rfl rfl (by decide +kernel) ?_
          refine Draw.take0 rfl (X.fieldAddr rfl rfl rfl rfl rfl rfl) rfl rfl rfl (by decide +kernel) ?_
          refine Draw.take rfl (X.load1 rfl rfl rfl rfl (.tail (.tail (.tail .head))) rfl) rfl rfl rfl (by decide +kernel) ?_
          refine Draw.take0 rfl (X.fieldAddr rfl rfl rfl rfl rfl rfl) rfl rfl rfl (by decide +kernel) ?_
          refine Draw.take rfl (X.load1 rfl rfl rfl rfl (.tail (.tail (.tail .head))) rfl) rfl rfl rfl (by decide +kernel) ?_
        case' x8 => exfalso; omega
      case' x7 =>
        refine Draw.pass rfl rfl rfl rfl (by decide +kernel) ?_
        refine Draw.pass rfl rfl rfl rfl (by decide +kernel) ?_
        refine Draw.pass rfl rfl rfl rfl (by decide +kernel) ?_
        refine Draw.take0 rfl (X.pick_t rfl rfl) rfl rfl rfl (by decide +kernel) ?_
        refine Draw.take0 rfl (X.move rfl) rfl rfl rfl (by decide +kernel) ?_
        refine Draw.pass rfl rfl rfl rfl (by decide +kernel) ?_
        refine Draw.pass rfl rfl rfl rfl (by decide +kernel) ?_
        refine Draw.pass rfl rfl rfl rfl (by decide +kernel) ?_
        refine Draw.pass rfl rfl rfl rfl (by decide +kernel) ?_
        refine Draw.pass rfl rfl rfl rfl (by decide +kernel) ?_
        refine Draw.pass rfl rfl rfl rfl (by decide +kernel) ?_
        refine Draw.pass rfl rfl rfl rfl (by decide +kernel) ?_
        refine Draw.pass rfl rfl rfl rfl (by decide +kernel) ?_
        refine Draw.pass rfl rfl rfl rfl (by decide +kernel) ?_
        refine Draw.pass rfl rfl rfl rfl (by decide +kernel) ?_
        refine Draw.pass rfl rfl rfl rfl (by decide +kernel) ?_
        refine Draw.pass rfl rfl rfl rfl (by decide +kernel) ?_
        refine Draw.pass rfl rfl rfl rfl (by decide +kernel) ?_
        refine Draw.pass rfl rfl rfl rfl (by decide +kernel) ?_
        refine Draw.pass rfl rfl rfl rfl (by decide +kernel) ?_
        refine Draw.pass rfl rfl rfl rfl (by decide +kernel) ?_
        refine Draw.pass rfl rfl rfl rfl (by decide +kernel) ?_
        refine Draw.pass rfl rfl rfl rfl (by decide +kernel) ?_
        refine Draw.pass rfl rfl rfl rfl (by decide +kernel) ?_
        refine Draw.pass rfl rfl rfl rfl (by decide +kernel) ?_
        refine Draw.pass rfl rfl rfl rfl (by decide +kernel) ?_
        refine Draw.pass rfl rfl rfl rfl (by decide +kernel) ?_
        refine Draw.take0 rfl (X.pick_t rfl rfl) rfl rfl rfl (by decide +kernel) ?_
        (refine Draw.done (by decide +kernel) (hK _ _ ?_); clear hK K)
        refine Run.cond_true rfl ?_
        refine Run.seq ?_
        (refine Run.region ?_; intro K hK)
        refine Ops.pure H (X.assign rfl) rfl rfl rfl ?_
        (refine Ops.nil (hK _ _ ?_); clear hK K)
      · exact absurd rfl ‹¬ (strOfNums A0).toList = (strOfNums A0).toList›
      refine Draw.eff rfl rfl (by decide +kernel) (Y.call rfl rfl (by first | assumption | decide +kernel) rfl (own_any _ _ xs (hxs.ext (G21.fr.then H.fr)) hxl) rfl ?_)
      rintro v w22 ⟨hA22, hf22⟩
      obtain ⟨va, vcap, rfl⟩ := hA22.slice
      replace H := H.ext hf22
      refine ⟨H.at_, ?_⟩
      have F22 := H.fr
      have G22 := G21.ext F22
      have K22 := K21.ext F22
      skip
      refine Draw.eff rfl rfl (by decide +kernel) (Y.call rfl rfl (by first | assumption | decide +kernel) rfl (one_put z _ n W2 cid seq _ xs G22 hA22 h1 h2 hc hq hby') rfl ?_)
      rintro v w23 ⟨rfl, W3, hwb3, G23, s1, s2, hN23, hf23, hft3⟩
      have K23 := K22.other G22.pw hDj hf23 (fun b hb => footP_foot hb) G23.fr
      have hDj3 : Dj W3 D2 := hDj.left K22.pw hft3
      have q1 := hf23.get (F22.get hcp21 (by simp)) (footP_ty G22.pw (F22.get hcp21 (by simp)) (by decide) (by decide))
      have q2 := hf23.get (F22.get hP21 (by simp)) (footP_ty G22.pw (F22.get hP21 (by simp)) (by decide) (by decide))
      have q3 := hf23.get (F22.get hcb (by simp)) (footP_ty G22.pw (F22.get hcb (by simp)) (by rcases hct with rfl | rfl <;> decide) (by rcases hct with rfl | rfl <;> decide))
      have q4 := hf23.get (F22.get hdb (by simp)) (footP_ty G22.pw (F22.get hdb (by simp)) (by rcases hdt with rfl | rfl <;> decide) (by rcases hdt with rfl | rfl <;> decide))
      have q5 := hf23.get (F22.get hbb21 (by simp)) (footP_ty G22.pw (F22.get hbb21 (by simp)) (by decide) (by decide))
      clear H
      have H := ((((Holds.start w23 []).add false q1 (by simp) (by simp)).add false q2 (by simpa using n18p.symm) (by simp)).add false q3 (by simpa using ⟨n1, n2⟩) (by simp)).add false q4 (by simpa using ⟨ncd, n3, n4⟩) (by simp)
      refine ⟨H.at_, ?_⟩
      skip
      refine Draw.eff rfl rfl (by decide +kernel) (Y.call rfl rfl (by first | assumption | decide +kernel) rfl (own_any _ _ xs (hxs.ext (G23.fr.then H.fr)) hxl) rfl ?_)
      rintro v w24 ⟨hA24, hf24⟩
      obtain ⟨va', vcap', rfl⟩ := hA24.slice
      replace H := H.ext hf24
      refine ⟨H.at_, ?_⟩
      have F24 := H.fr
      have G24 := G23.ext F24
      have K24 := K23.ext F24
      skip
      refine Draw.eff rfl rfl (by decide +kernel) (Y.call rfl rfl (by first | assumption | decide +kernel) rfl (one_put z _ n D2 cid seq _ xs K24 hA24 h1 h2 hc hq hby') rfl ?_)
      rintro v w25 ⟨rfl, D3, hwd3, K25, t1, t2, hM25, hf25, hft4⟩
      have G25 := G24.other K24.pw hDj3.symm hf25 (fun b hb => footP_foot hb) K25.fr
      have hDj4 : Dj W3 D3 := (hDj3.symm.left G24.pw hft4).symm
      have r1 := hf25.get (F24.get q1 (by simp)) (footP_ty K24.pw (F24.get q1 (by simp)) (by decide) (by decide))
      have r2 := hf25.get (F24.get q2 (by simp)) (footP_ty K24.pw (F24.get q2 (by simp)) (by decide) (by decide))
      have r3 := hf25.get (F24.get q3 (by simp)) (footP_ty K24.pw (F24.get q3 (by simp)) (by rcases hct with rfl | rfl <;> decide) (by rcases hct with rfl | rfl <;> decide))
      have r4 := hf25.get (F24.get q4 (by simp)) (footP_ty K24.pw (F24.get q4 (by simp)) (by rcases hdt with rfl | rfl <;> decide) (by rcases hdt with rfl | rfl <;> decide))
      have r5 := hf25.get (F24.get q5 (by simp)) (footP_ty K24.pw (F24.get q5 (by simp)) (by decide) (by decide))
      clear H
      have H := ((((Holds.start w25 []).add false r1 (by simp) (by simp)).add false r2 (by simpa using n18p.symm) (by simp)).add false r3 (by simpa using ⟨n1, n2⟩) (by simp)).add false r4 (by simpa using ⟨ncd, n3, n4⟩) (by simp)
      refine ⟨H.at_, ?_⟩
      have hput : putE D2.N (st D2 cid) seq xs = putE W2.N (st W2 cid) seq xs := by rw [hss, hNN]
      have hst3 : st W3 = st D3 := put_same hss hNN s1 s2 t1 t2
      have hN3 : W3.N = D3.N := by rw [hN23, hM25, hss, hNN]
      rw [hput]
      refine Draw.take0 rfl (X.cmp rfl rfl rfl) rfl rfl rfl (by decide +kernel) ?_
      refine Draw.take0 rfl (X.pick_f rfl rfl) rfl rfl rfl (by decide +kernel) ?_
      (refine Draw.done (by decide +kernel) (hK _ _ ?_); clear hK K)
      refine Run.cond_ndec rfl (fun h175 => ?x9) (fun h175 => ?y9)
      case' y9 =>
        refine Run.skip ?_
        refine Run.inBlock ?_
        (refine Run.region ?_; intro K hK)
        refine Ops.pure H (X.move rfl) rfl rfl rfl ?_
        refine Ops.pure H (X.succ rfl rfl (by omega)) rfl rfl rfl ?_
        refine Ops.pure H (X.assign rfl) rfl rfl rfl ?_
        (refine Ops.nil (hK _ _ ?_); clear hK K)
      case' x9 => exfalso; omega
      refine (IH (i + 1, W3, D3) _ (by dsimp only; omega) ⟨by dsimp only; omega, G25.ext H.fr, K25.ext H.fr, hDj4, hst3, hN3, ?_, H.fr.get r5 (by simp)⟩).weak ?_
      · dsimp only
        rw [hwb3]
        exact H.fr.get r2 (by simp)
      · dsimp only
        rw [hwd3]
        exact (by repeat (first | exact trivial | refine ⟨rfl, ?_⟩))
    · obtain rfl : i = mn := by omega
      clear IH
      obtain ⟨q, hq⟩ : ∃ q, q = at_ % B.length := ⟨_, rfl⟩
      have hql : q < B.length := by rw [hq]; exact Nat.mod_lt _ (by omega)
      have hqi : (at_ : Int) % (B.length : Int) = (q : Int) := by rw [hq]; rfl
      have H := ((Holds.start w8 []).add false hP8 (by simp) (by simp)).add false hbb8 (by simpa using npb.symm) (by simp)
      refine Run.seq ?_
      refine Run.seq ?_
      (refine Run.region ?_; intro K hK)
      refine Ops.pure H (X.move rfl) rfl rfl rfl ?_
      refine Ops.pure H (X.move rfl) rfl rfl rfl ?_
      refine Ops.pure H (X.len_slice rfl rfl rfl) rfl rfl rfl ?_
      refine Ops.pure H (X.cmp rfl rfl rfl) rfl rfl rfl ?_
      (refine Ops.nil (hK _ _ ?_); clear hK K)
      refine Run.cond_dec rfl (fun h107 => ?x10) (fun h107 => ?y10)
      case' y10 =>
        refine Run.exit rfl ?_
        refine Run.seq ?_
        (refine Run.region ?_; intro K hK)
        refine Ops.pure H (X.move rfl) rfl rfl rfl ?_
        refine Ops.pure H (X.conv rfl rfl rfl rfl rfl (IntWalk.i64_in _ (by omega))) rfl rfl rfl ?_
        refine Ops.pure H (X.move rfl) rfl rfl rfl ?_
        refine Ops.pure H (X.len_slice rfl rfl rfl) rfl rfl rfl ?_
        refine Ops.pure H (X.remP rfl rfl (by omega)) rfl rfl rfl ?_
        refine Ops.pure H (X.assign rfl) rfl rfl rfl ?_
        (refine Ops.nil (hK _ _ ?_); clear hK K)
        refine Run.seq ?_
        (refine Run.region ?_; intro K hK)
        refine Ops.pure H (X.move rfl) rfl rfl rfl ?_
      case' x10 => exfalso; omega
      rw [hqi]
      skip
      refine Ops.eff rfl (Y.call rfl rfl (by first | assumption | decide +kernel) rfl (own_one _ _ B (hBys6 (H.pick (b := bb) (by first | exact .head | exact .tail .head | exact .tail (.tail .head) | exact .tail (.tail (.tail .head)) | exact .tail (.tail (.tail (.tail .head))) | exact .tail (.tail (.tail (.tail (.tail .head)))) | exact .tail (.tail (.tail (.tail (.tail (.tail .head)))))))) (by omega)) rfl ?_)
      rintro v w9 ⟨nb, ncs, rfl, hnb9, hncl, hnC, hnz, hf9⟩
      have hz9 := H.fr.size
      have F9 := H.fr.then hf9
      obtain ⟨x, hx⟩ : ∃ x : Nat, B[q] = (x : Int) := ⟨B[q].toNat, by have := hByt _ (List.getElem_mem hql); omega⟩
      have hxb : x < 256 := by have := hByt _ (List.getElem_mem hql); omega
      have hcx : ncs[0 + q * 1]? = some (.int .u8 (x : Nat)) := by
        rw [Nat.mul_one, hnC.toGet hql]
        simp [hql, hx]
      clear H
      have H := (Holds.start w9 [nb]).add true hnb9 (by simp) (by simp)
      refine Ops.pure H (X.assign rfl) rfl rfl rfl ?_
      (refine Ops.nil (hK _ _ ?_); clear hK K)
      refine Run.seq ?_
      (refine Run.region ?_; intro K hK)
      refine Ops.pure H (X.move rfl) rfl rfl rfl ?_
      refine Ops.pure H (X.move rfl) rfl rfl rfl ?_
      refine Ops.pure H (X.move rfl) rfl rfl rfl ?_
      refine Ops.pure H (X.move rfl) rfl rfl rfl ?_
      refine Ops.pure H (X.indexAddr rfl rfl (by omega) rfl rfl rfl rfl) rfl rfl rfl ?_
      refine Ops.pure H (X.load1 rfl rfl rfl rfl Pick.head (by assumption)) rfl rfl rfl ?_
      refine Ops.pure H (X.move rfl) rfl rfl rfl ?_
      refine Ops.pure H (X.xor8 rfl rfl rfl rfl hxb hby) rfl rfl rfl ?_
      refine Ops.pure H (X.indexAddr rfl rfl (by omega) rfl rfl rfl rfl) rfl rfl rfl ?_
      (refine Ops.eff rfl (Y.storeI rfl rfl rfl rfl rfl rfl H Upd.head (by first | omega | (simp only [List.length_set]; omega)) ?_); intro w H0; clear H; have H := H0; clear H0)
      (refine Ops.nil (hK _ _ ?_); clear hK K)
      refine Run.seq ?_
      (refine Run.region ?_; intro K hK)
      refine Ops.pure H (X.move rfl) rfl rfl rfl ?_
      have F10 := F9.trans (U := []) H.fr (by simp) (fun x hx hl => by simp at hx; omega)
      have hnb10 := H.pick (b := nb) (by first | exact .head | exact .tail .head | exact .tail (.tail .head) | exact .tail (.tail (.tail .head)) | exact .tail (.tail (.tail (.tail .head))) | exact .tail (.tail (.tail (.tail (.tail .head)))) | exact .tail (.tail (.tail (.tail (.tail (.tail .head))))))
      have hsl : (B.set q ((x ^^^ by_ : Nat) : Int)).length = B.length := List.length_set
      have hyb : ((x ^^^ by_ : Nat) : Int) ≤ 255 := by have := Nat.xor_lt_two_pow (n := 8) hxb hby; omega
      obtain ⟨S, hS'⟩ : ∃ S, S = B.set q ((x ^^^ by_ : Nat) : Int) := ⟨_, rfl⟩
      rw [← hS'] at hsl
      have hSb : Byt S := fun y hy => by
        rw [hS'] at hy
        rcases List.mem_or_eq_of_mem_set hy with h | rfl
        · exact hByt y h
        · exact ⟨by omega, hyb⟩
      have hCS : Cs (ncs.set (0 + q * 1) (.int .u8 ((x ^^^ by_ : Nat) : Int))) 0 S.length (u8s S) := by
        refine Cs.ofGet _ _ _ (by simp) fun j hj => ?_
        rw [hS']
        by_cases e : j = q
        · subst e
          rw [Nat.mul_one, List.getElem?_set_self (by omega)]
          simp [hql]
        · rw [List.getElem?_set_ne (by omega), hnC.toGet (by omega)]
          simp [List.getElem?_set_ne (fun h : q = j => e h.symm)]
      have hfn := load_any _ nb 0 (B.length + 2) _ (0, 0) S hnb10 (by omega) (by omega) hCS hSb
      rw [hsl] at hfn
      refine Ops.eff rfl (Y.call rfl rfl (by first | assumption | decide +kernel) rfl (hfn) rfl ?_)
      rintro v w11 hQ
      obtain ⟨pv, ev, rfl, hev, hf11⟩ : ∃ pv ev, v = .tuple #[.pointer pv, .int .i64 ev] ∧ (decide ((ev : Int) = 0) = decide (((by_ : Nat) : Int) = 0)) ∧ Fr _ w11 [] := by
        by_cases hb0 : by_ = 0
        · subst hb0
          have hSB : S = B := by
            rw [hS', Nat.xor_zero, ← hx]
            exact List.set_getElem_self hql
          obtain ⟨D9, rfl, hf, _⟩ := hQ.good (by rw [hSB]; exact hload) (beL_len _ _) (fun x => by rw [i1, st]; cases W.m x <;> simp) i2 (by rw [hSB, hB, hWn, Int.toNat_natCast])
          exact ⟨_, 0, rfl, rfl, hf⟩
        · obtain ⟨rfl, hf⟩ := hQ.fail (fun W9 ids9 tail9 _ _ h9 => by
            rw [hS'] at h9
            refine set_spoilt B _ _ _ _ hB hByt q hql _ ⟨by omega, hyb⟩ ?_ _ _ _ _ h9
            rw [hx]
            intro he
            have he2 : x = x ^^^ by_ := by omega
            have h3 := congrArg (x ^^^ ·) he2
            simp [← Nat.xor_assoc] at h3
            exact hb0 h3.symm)
          exact ⟨_, 20, rfl, by rw [decide_eq_false (by decide), decide_eq_false (by omega)], hf⟩
      have F11 := F10.then hf11
      have hP11 := F11.get hP8 (by simp)
      have hbb11 := F11.get hbb8 (by simp)
      clear H hQ hfn
      have H := ((Holds.start w11 []).add false hP11 (by simp) (by simp)).add false hbb11 (by simpa using npb.symm) (by simp)
      refine Ops.pure H (X.move rfl) rfl rfl rfl ?_
      refine Ops.pure H (X.extract rfl rfl) rfl rfl rfl ?_
      refine Ops.pure H (X.extract rfl rfl) rfl rfl rfl ?_
      refine Ops.pure H (X.assign rfl) rfl rfl rfl ?_
      refine Ops.pure H (X.assign rfl) rfl rfl rfl ?_
      (refine Ops.nil (hK _ _ ?_); clear hK K)
      refine Run.seq ?_
      (refine Run.region ?_; intro K hK)
      refine Ops.pure H (X.move rfl) rfl rfl rfl ?_
      refine Ops.pure H (X.move rfl) rfl rfl rfl ?_
      refine Ops.pure H (X.slice_h rfl rfl (by omega) rfl rfl rfl) rfl rfl rfl ?_
      obtain ⟨T, hT⟩ : ∃ T, T = B.take q := ⟨_, rfl⟩
      have hTl : T.length = q := by rw [hT, List.length_take]; omega
      have hTB : Bys w11 (.slice (some ⟨bb, 0, none⟩) T.length bcap) T := ⟨_, _, bb, 0, bcs, 5, (0, 0), rfl, by omega, hbc2, fun _ => ⟨rfl, H.pick (b := bb) (by first | exact .head | exact .tail .head | exact .tail (.tail .head) | exact .tail (.tail (.tail .head)) | exact .tail (.tail (.tail (.tail .head))) | exact .tail (.tail (.tail (.tail (.tail .head)))) | exact .tail (.tail (.tail (.tail (.tail (.tail .head))))))⟩, (hbC2.sub 0 q (by omega)).cast (by omega) hTl.symm (by rw [hT]; simp)⟩
      rw [← hTl]
      refine Ops.eff rfl (Y.call rfl rfl (by first | assumption | decide +kernel) rfl (own_one _ _ T hTB (by omega)) rfl ?_)
      rintro v w12 ⟨nb2, ncs2, rfl, hnb12, hncl2, hnC2, hnz2, hf12⟩
      have F12 := (F11.then H.fr).then hf12
      clear H
      have H := Holds.start w12 []
      skip
      refine Ops.eff rfl (Y.call rfl rfl (by first | assumption | decide +kernel) rfl (load_any _ nb2 0 _ ncs2 (0, 0) T (H.fr.get hnb12 (by simp)) (by omega) (by omega) hnC2 (by rw [hT]; exact hByt.take q)) rfl ?_)
      rintro v w13 hQ2
      obtain ⟨rfl, hf13⟩ := hQ2.fail (fun W9 ids9 tail9 h7 h8 _ => cut_short B T (B.drop q) (by rw [hT]; exact (List.take_append_drop q B).symm) (by rw [List.length_drop]; omega) _ _ _ _ _ _ _ _ hload (beL_len _ _) h7 h8)
      have F13 := (F12.then H.fr).then hf13
      have hP13 := F13.get hP8 (by simp)
      have G13 := G8.ext F13
      have K13 := K8.ext F13
      clear H hQ2
      have H := (Holds.start w13 []).add false hP13 (by simp) (by simp)
      refine Ops.pure H (X.move rfl) rfl rfl rfl ?_
      refine Ops.pure H (X.extract rfl rfl) rfl rfl rfl ?_
      refine Ops.pure H (X.extract rfl rfl) rfl rfl rfl ?_
      refine Ops.pure H (X.assign rfl) rfl rfl rfl ?_
      refine Ops.pure H (X.assign rfl) rfl rfl rfl ?_
      (refine Ops.nil (hK _ _ ?_); clear hK K)
      refine Run.seq ?_
      refine Run.draw H [] [0, 1, 2, 3, 6, 4, 5, 7, 8, 9, 10, 11, 12, 13, 14, 15, 16, 17, 18, 19, 20, 21] ?_
      clear H
      intro K hK w H
      refine Draw.take0 rfl (X.move rfl) rfl rfl rfl (by decide +kernel) ?_
      refine Draw.take0 rfl (X.nilCheck rfl) rfl rfl rfl (by decide +kernel) ?_
      refine Draw.take0 rfl (X.fieldAddr rfl rfl rfl rfl rfl rfl) rfl rfl rfl (by decide +kernel) ?_
      refine Draw.take rfl (X.load1 rfl rfl rfl rfl Pick.head rfl) rfl rfl rfl (by decide +kernel) ?_
      refine Draw.take0 rfl (X.move rfl) rfl rfl rfl (by decide +kernel) ?_
      refine Draw.eff rfl rfl (by decide +kernel) (Y.call rfl rfl (by first | assumption | decide +kernel) rfl (Bytes_any _ W2 (G13.pw.ext H.fr) (G13.wok h1 h2)) rfl ?_)
      rintro v w14 ⟨kds, k1, k2, k3, hO14, hf14⟩
      have hge2 := len_encW W2.size.toNat W2.N (st W2) kds
      obtain ⟨bb2, bcap2, bcs2, rfl, hb21, hb22, hb2z, hb214, hb2l, hb2C⟩ := hO14.get (by omega)
      have K14 := (K13.ext H.fr).ext hf14
      have hG14 : G13 = G13 := rfl
      have hnW : W2.size = D2.size := by rw [G13.nw, K13.nw]
      obtain ⟨B2, hB2⟩ : ∃ B2, B2 = encW W2.size.toNat W2.N (st W2) kds := ⟨_, rfl⟩
      rw [← hB2] at hge2 hb21 hb2C ⊢
      replace H := H.ext hf14
      have npb2 : pb ≠ bb2 := ne_of_ty (H.pick (b := pb) (by first | exact .head | exact .tail .head | exact .tail (.tail .head) | exact .tail (.tail (.tail .head)) | exact .tail (.tail (.tail (.tail .head))) | exact .tail (.tail (.tail (.tail (.tail .head)))) | exact .tail (.tail (.tail (.tail (.tail (.tail .head))))))) hb214 (by decide)
      refine ⟨H.at_, ?_⟩
      have F14 := F13.then H.fr
      have H' := H.add false hb214 (by simpa using npb2.symm) (by simp)
      refine Draw.more H' (fun e he => ⟨e, List.mem_cons_of_mem _ he, rfl, rfl⟩) ?_
      clear H
      have H := H'
      clear H'
      refine Draw.take rfl (X.bytesStr rfl .head (by simpa using hb2C) rfl rfl rfl rfl rfl rfl rfl) rfl rfl rfl (by decide +kernel) ?_
      skip
      refine Draw.eff rfl rfl (by decide +kernel) (Y.call rfl rfl (by first | assumption | decide +kernel) rfl (Bytes_any _ D2 K14.pw (K14.wok h1 h2)) rfl ?_)
      rintro v w15 ⟨lds, l1, l2, l3, hO15, hf15⟩
      rw [← enc_same hss hnW hNN k1 k2 l1 l2, ← hB2] at hO15
      replace H := H.ext hf15
      refine ⟨H.at_, ?_⟩
      refine Draw.eff rfl rfl (by decide +kernel) (Y.bytes hO15.bys rfl rfl rfl rfl rfl rfl rfl rfl ?_)
      refine ⟨H.at_, ?_⟩
      refine Draw.take0 rfl (X.strEq rfl rfl) rfl rfl rfl (by decide +kernel) ?_
      refine Draw.take0 rfl (X.move rfl) rfl rfl rfl (by decide +kernel) ?_
      refine Draw.split_dec rfl rfl rfl (fun h216 => ?x11) (fun h216 => ?y11)
      case' y11 =>
        refine Draw.pass rfl rfl rfl rfl (by decide +kernel) ?_
        refine Draw.pass rfl rfl rfl rfl (by decide +kernel) ?_
        refine Draw.pass rfl rfl rfl rfl (by decide +kernel) ?_
        refine Draw.pass rfl rfl rfl rfl (by decide +kernel) ?_
        refine Draw.pass rfl rfl rfl rfl (by decide +kernel) ?_
        refine Draw.take0 rfl (X.pick_f rfl rfl) rfl rfl rfl (by decide +kernel) ?_
        refine Draw.take0 rfl (X.move rfl) rfl rfl rfl (by decide +kernel) ?_
        refine Draw.pass rfl rfl rfl rfl (by decide +kernel) ?_
        refine Draw.pass rfl rfl rfl rfl (by decide +kernel) ?_
        refine Draw.take0 rfl (X.pick_f rfl rfl) rfl rfl rfl (by decide +kernel) ?_
        refine Draw.take0 rfl (X.assign rfl) rfl rfl rfl (by decide +kernel) ?_
        (refine Draw.done (by decide +kernel) (hK _ _ ?_); clear hK K)
      case' x11 =>
        refine Draw.take0 rfl (X.move rfl) rfl rfl rfl (by decide +kernel) ?_
        refine Draw.take0 rfl (X.cmp rfl rfl rfl) rfl rfl rfl (by decide +kernel) ?_
        refine Draw.take0 rfl (X.move rfl) rfl rfl rfl (by decide +kernel) ?_
        refine Draw.take0 rfl (X.cmp rfl rfl rfl) rfl rfl rfl (by decide +kernel) ?_
        refine Draw.take0 rfl (X.boolEq rfl rfl rfl rfl rfl) rfl rfl rfl (by decide +kernel) ?_
        refine Draw.take0 rfl (X.pick_t rfl rfl) rfl rfl rfl (by decide +kernel) ?_
        refine Draw.take0 rfl (X.move rfl) rfl rfl rfl (by decide +kernel) ?_
        refine Draw.split_dec rfl rfl rfl (fun h223 => ?x12) (fun h223 => ?y12)
        case' y12 =>
          refine Draw.pass rfl rfl rfl rfl (by decide +kernel) ?_
          refine Draw.pass rfl rfl rfl rfl (by decide +kernel) ?_
          refine Draw.take0 rfl (X.pick_f rfl rfl) rfl rfl rfl (by decide +kernel) ?_
          refine Draw.take0 rfl (X.assign rfl) rfl rfl rfl (by decide +kernel) ?_
          (refine Draw.done (by decide +kernel) (hK _ _ ?_); clear hK K)
        case' x12 =>
          refine Draw.take0 rfl (X.move rfl) rfl rfl rfl (by decide +kernel) ?_
          refine Draw.take0 rfl (X.cmp rfl rfl rfl) rfl rfl rfl (by decide +kernel) ?_
          refine Draw.take0 rfl (X.pick_t rfl rfl) rfl rfl rfl (by decide +kernel) ?_
          refine Draw.take0 rfl (X.assign rfl) rfl rfl rfl (by decide +kernel) ?_
          (refine Draw.done (by decide +kernel) (hK _ _ ?_); clear hK K)
      · (first | refine Fn.ret1 HF rfl rfl ?_ | refine Fn.ret2 HF rfl rfl rfl ?_ | refine Fn.ret3 HF rfl rfl rfl rfl ?_ | refine Fn.ret0 HF rfl ?_ | refine Fn.fin0 HF rfl ?_ | refine Fn.retG (E := env) HF rfl H (by first | exact RVs.cellN rfl rfl rfl (by first | exact .head | exact .tail .head | exact .tail (.tail .head) | exact .tail (.tail (.tail .head)) | exact .tail (.tail (.tail (.tail .head))) | exact .tail (.tail (.tail (.tail (.tail .head)))) | exact .tail (.tail (.tail (.tail (.tail (.tail .head)))))) (by first | assumption | exact Cs.take rfl) RVs.nil | exact RVs.cellN rfl rfl rfl (by first | exact .head | exact .tail .head | exact .tail (.tail .head) | exact .tail (.tail (.tail .head)) | exact .tail (.tail (.tail (.tail .head))) | exact .tail (.tail (.tail (.tail (.tail .head)))) | exact .tail (.tail (.tail (.tail (.tail (.tail .head)))))) (by first | assumption | exact Cs.take rfl) (RVs.tmp rfl RVs.nil) | exact RVs.cellN rfl rfl rfl (by first | exact .head | exact .tail .head | exact .tail (.tail .head) | exact .tail (.tail (.tail .head)) | exact .tail (.tail (.tail (.tail .head))) | exact .tail (.tail (.tail (.tail (.tail .head)))) | exact .tail (.tail (.tail (.tail (.tail (.tail .head)))))) (by first | assumption | exact Cs.take rfl) (RVs.tmp rfl (RVs.tmp rfl RVs.nil))) rfl ?_)
        exact ⟨by simp, G8.fr.then (F13.then H.fr)⟩
      · exact absurd hev ‹¬ decide (ev = 0) = decide ((by_ : Int) = 0)›
      · exact absurd rfl ‹¬ (strOfNums B2).toList = (strOfNums B2).toList›
end Go.Proofs.Ytaneenahapdabaa
