/- The library's sort, walked: partialInsertionSort. -/
import Derived.Test.YtaneenahapdabaaSF
namespace Go.Proofs.Ytaneenahapdabaa
open Go
set_option maxRecDepth 20000
set_option maxHeartbeats 2000000
attribute [local irreducible] Run Ops Fn Draw Draw2 PureOp StepZ

theorem pins_any (z : World) (blk off cap : Nat) (d : Array Int) (cs : List Value) (a b : Nat) {n : Nat} (hn : d.size = n) (h : Ar z blk off d cs) (hab : a < b) (hb : b ≤ n) (hm : n ≤ 2305843009213693951) :
    Fn env.P 71 [.slice (some ⟨blk, off, none⟩) n cap, .int .i64 (a : Nat), .int .i64 (b : Nat)] z fun v w' => v = .bool (Sort.partialInsertionSort ltU d a b).2 ∧ ∃ cs', Ar w' blk off (Sort.partialInsertionSort ltU d a b).1 cs' ∧ Fr z w' [blk] := by
  have H := Holds.start z []
  have HF := Try.func71; refine Fn.enter Try.func71 Try.ntmps71 rfl rfl rfl ?_
  (refine Run.seq (Run.region ?_); intro K hK)
  refine Ops.pure H (X.assign rfl) rfl rfl rfl ?_
  (refine Ops.nil (hK _ _ (Run.seq (Run.region ?_))); clear hK K; intro K hK)
  refine Ops.pure H (X.move rfl) rfl rfl rfl ?_
  refine Ops.pure H (X.succ rfl rfl (by omega)) rfl rfl rfl ?_
  refine Ops.pure H (X.assign rfl) rfl rfl rfl ?_
  (refine Ops.nil (hK _ _ ?_); clear hK K)
  refine Run.seq ?_
  (refine Run.seq (Run.region ?_); intro K hK)
  refine Ops.pure H (X.assign rfl) rfl rfl rfl ?_
  (refine Ops.nil (hK _ _ ?_); clear hK K)
  obtain ⟨R, hR⟩ : ∃ R, R = Sort.partialInsertionSort ltU d a b := ⟨_, rfl⟩
  rw [← hR]
  refine Run.block ?_
  refine Run.rounds (fun (x : Nat × Nat) => [(0, .slice (some ⟨blk, off, none⟩) n cap), (1, .int .i64 (a : Nat)), (2, .int .i64 (b : Nat)), (7, .int .i64 (x.1 : Nat)), (8, .int .i64 (x.2 : Nat))])
    (fun x w' => a + 1 ≤ x.1 ∧ x.1 ≤ b ∧ x.2 ≤ 5 ∧ ∃ (d' : Array Int) (cs' : List Value), d'.size = n ∧ Ar w' blk off d' cs' ∧ Sort.partialIns ltU a b (5 - x.2) x.1 d' = R ∧ Fr z w' [blk]) (fun x => 5 - x.2) (a + 1, 0) (by repeat (first | exact trivial | refine ⟨rfl, ?_⟩)) ⟨by dsimp only; omega, by dsimp only; omega, by dsimp only; omega, d, cs, hn, h.ext H.fr, hR.symm, H.fr.trans (U := [blk]) (Fr.refl _ []) (by simp) (by simp)⟩ ?_
  clear H
  rintro ⟨i0, s0⟩ w1 ⟨hi1, hi2, hs5, d1, cs1, hs1, h1, he, hf1⟩ IH
  dsimp only at hi1 hi2 hs5 he IH ⊢
  by_cases h5 : s0 < 5
  · obtain ⟨q, hq⟩ : ∃ q, 5 - s0 = q + 1 := ⟨4 - s0, by omega⟩
    rw [hq, Sort.partialIns] at he
    obtain ⟨I, hI⟩ : ∃ I, I = Sort.scanSorted ltU d1 b i0 := ⟨_, rfl⟩
    dsimp only at he
    rw [← hI] at he
    have H := Holds.start w1 []
    refine Run.seq ?_
    (refine Run.seq (Run.region ?_); intro K hK)
    refine Ops.pure H (X.move rfl) rfl rfl rfl ?_
    refine Ops.pure H (X.cmp rfl rfl rfl) rfl rfl rfl ?_
    (refine Ops.nil (hK _ _ ?_); clear hK K)
    refine Run.cond_dec rfl (fun h14 => ?x0) (fun h14 => ?y0)
    case' y0 => exfalso; omega
    case' x0 =>
      refine Run.skip ?_
    refine Run.seq ?_
    refine Run.block ?_
    refine Run.seq ?_
    refine Run.meet (fun (_ : Unit) => [(0, .slice (some ⟨blk, off, none⟩) n cap), (1, .int .i64 (a : Nat)), (2, .int .i64 (b : Nat)), (7, .int .i64 (I : Nat)), (8, .int .i64 (s0 : Nat))]) (fun _ w' => a + 1 ≤ I ∧ I ≤ b ∧ Ar w' blk off d1 cs1 ∧ Fr z w' [blk]) ?_ ?_
    rotate_left
    · intro kk go
      refine Run.block ?_
      refine Run.rounds (fun (i : Nat) => [(0, .slice (some ⟨blk, off, none⟩) n cap), (1, .int .i64 (a : Nat)), (2, .int .i64 (b : Nat)), (7, .int .i64 (i : Nat)), (8, .int .i64 (s0 : Nat))])
        (fun i w' => a + 1 ≤ i ∧ i ≤ b ∧ Ar w' blk off d1 cs1 ∧ Sort.scanSorted ltU d1 b i = I ∧ Fr z w' [blk]) (fun i => b - i) i0 (by repeat (first | exact trivial | refine ⟨rfl, ?_⟩)) ⟨by omega, by omega, h1.ext H.fr, hI.symm, hf1.trans H.fr (by simp) (by simp)⟩ ?_
      clear H
      rintro i w2 ⟨hi1, hi2, h2, he2, hf2⟩ IH2
      rw [Sort.scanSorted] at he2
      by_cases hij : i < b
      · have c1 := h2.hc i (by omega)
        have c2 := h2.hc (i - 1) (by omega)
        have hl2 := h2.hl
        have H := (Holds.start w2 [blk]).add true h2.hb (by simp) (by simp)
        refine Run.seq ?_
        refine Run.seq ?_
        (refine Run.draw H [13] [0, 1, 2, 3, 4, 5, 6, 7, 8, 9, 10, 11, 12, 13, 14, 15] ?_; clear H; intro K hK w H)
        refine Draw.take0 rfl (X.move rfl) rfl rfl rfl (by decide +kernel) ?_
        refine Draw.take0 rfl (X.move rfl) rfl rfl rfl (by decide +kernel) ?_
        refine Draw.take0 rfl (X.cmp rfl rfl rfl) rfl rfl rfl (by decide +kernel) ?_
        refine Draw.take0 rfl (X.move rfl) rfl rfl rfl (by decide +kernel) ?_
        refine Draw.split_dec rfl rfl rfl (fun h21 => ?x1) (fun h21 => ?y1)
        case' y1 => exfalso; omega
        case' x1 =>
          refine Draw.take0 rfl (X.move rfl) rfl rfl rfl (by decide +kernel) ?_
          refine Draw.take0 rfl (X.move rfl) rfl rfl rfl (by decide +kernel) ?_
          refine Draw.take0 rfl (X.indexAddr rfl rfl (by omega) rfl rfl rfl rfl) rfl rfl rfl (by decide +kernel) ?_
          refine Draw.take rfl (X.load1 rfl rfl rfl rfl Pick.head (by assumption)) rfl rfl rfl (by decide +kernel) ?_
          refine Draw.take0 rfl (X.move rfl) rfl rfl rfl (by decide +kernel) ?_
          refine Draw.take0 rfl (X.move rfl) rfl rfl rfl (by decide +kernel) ?_
          refine Draw.take0 rfl (X.subN (j := 1) rfl rfl rfl rfl (by omega) (IntWalk.i64_in _ (by omega))) rfl rfl rfl (by decide +kernel) ?_
          refine Draw.take0 rfl (X.indexAddr rfl rfl (by omega) rfl rfl rfl rfl) rfl rfl rfl (by decide +kernel) ?_
          refine Draw.take rfl (X.load1 rfl rfl rfl rfl Pick.head (by assumption)) rfl rfl rfl (by decide +kernel) ?_
        refine Draw.last rfl rfl (by decide +kernel) (Y.call rfl rfl (by first | assumption | decide +kernel) rfl (less_any _ d1[i]! d1[i - 1]!) rfl ?_)
        rintro v w3 ⟨rfl, rfl⟩
        by_cases hlt : d1[i]! < d1[i - 1]!
        · rw [if_neg (by simp [ltU]; omega)] at he2
          refine Draw2.take rfl (X.not rfl) rfl rfl rfl (by decide +kernel) ?_
          refine Draw2.take rfl (X.pick_t rfl rfl) rfl rfl rfl (by decide +kernel) ?_
          (refine Draw2.done (by decide +kernel) (hK _ _ ?_); clear hK K)
          refine Run.cond_ndec rfl (fun h32 => ?x2) (fun h32 => ?y2)
          case' y2 =>
            refine Run.exit rfl ?_
          case' x2 => exfalso; omega
          subst he2
          exact go () _ _ ⟨by omega, by omega, h2.keepH H.fr (H.pick .head), hf2.trans H.fr (by simp) (by simp)⟩ (by repeat (first | exact trivial | refine ⟨rfl, ?_⟩))
        · rw [if_pos (by simp [ltU]; omega)] at he2
          refine Draw2.take rfl (X.not rfl) rfl rfl rfl (by decide +kernel) ?_
          refine Draw2.take rfl (X.pick_t rfl rfl) rfl rfl rfl (by decide +kernel) ?_
          (refine Draw2.done (by decide +kernel) (hK _ _ ?_); clear hK K)
          refine Run.cond_ndec rfl (fun h32 => ?x3) (fun h32 => ?y3)
          case' y3 => exfalso; omega
          case' x3 =>
            refine Run.skip ?_
            refine Run.block ?_
            (refine Run.region ?_; intro K hK)
            refine Ops.pure H (X.move rfl) rfl rfl rfl ?_
            refine Ops.pure H (X.succ rfl rfl (by omega)) rfl rfl rfl ?_
            refine Ops.pure H (X.assign rfl) rfl rfl rfl ?_
            (refine Ops.nil (hK _ _ ?_); clear hK K)
            refine Run.inBlock ?_
          exact (IH2 (i + 1) _ (by omega) ⟨by omega, by omega, h2.keepH H.fr (H.pick .head), he2, hf2.trans H.fr (by simp) (by simp)⟩).weak (by repeat (first | exact trivial | refine ⟨rfl, ?_⟩))
      · rw [if_neg (by simp; omega)] at he2
        have H := (Holds.start w2 [blk]).add true h2.hb (by simp) (by simp)
        refine Run.seq ?_
        refine Run.seq ?_
        (refine Run.draw H [13] [0, 1, 2, 3, 4, 5, 6, 7, 8, 9, 10, 11, 12, 13, 14, 15] ?_; clear H; intro K hK w H)
        refine Draw.take0 rfl (X.move rfl) rfl rfl rfl (by decide +kernel) ?_
        refine Draw.take0 rfl (X.move rfl) rfl rfl rfl (by decide +kernel) ?_
        refine Draw.take0 rfl (X.cmp rfl rfl rfl) rfl rfl rfl (by decide +kernel) ?_
        refine Draw.take0 rfl (X.move rfl) rfl rfl rfl (by decide +kernel) ?_
        refine Draw.split_dec rfl rfl rfl (fun h21 => ?x4) (fun h21 => ?y4)
        case' y4 =>
          refine Draw.pass rfl rfl rfl rfl (by decide +kernel) ?_
          refine Draw.pass rfl rfl rfl rfl (by decide +kernel) ?_
          refine Draw.pass rfl rfl rfl rfl (by decide +kernel) ?_
          refine Draw.pass rfl rfl rfl rfl (by decide +kernel) ?_
          refine Draw.pass rfl rfl rfl rfl (by decide +kernel) ?_
          refine Draw.pass rfl rfl rfl rfl (by decide +kernel) ?_
          refine Draw.pass rfl rfl rfl rfl (by decide +kernel) ?_
          refine Draw.pass rfl rfl rfl rfl (by decide +kernel) ?_
          refine Draw.pass rfl rfl rfl rfl (by decide +kernel) ?_
          refine Draw.passL rfl rfl rfl rfl (by decide +kernel) ?_
          refine Draw2.passE rfl rfl rfl rfl (by decide +kernel) ?_
          refine Draw2.take rfl (X.pick_f rfl rfl) rfl rfl rfl (by decide +kernel) ?_
          (refine Draw2.done (by decide +kernel) (hK _ _ ?_); clear hK K)
          refine Run.cond_false rfl ?_
          refine Run.exit rfl ?_
        case' x4 => exfalso; omega
        subst he2
        exact go () _ _ ⟨by omega, by omega, h2.keepH H.fr (H.pick .head), hf2.trans H.fr (by simp) (by simp)⟩ (by repeat (first | exact trivial | refine ⟨rfl, ?_⟩))
    clear H
    rintro _ w2 ⟨hI1, hI2, h2, hf2⟩
    by_cases hIb : I = b
    · rw [if_pos hIb] at he
      have H := Holds.start w2 []
      refine Run.seq ?_
      (refine Run.seq (Run.region ?_); intro K hK)
      refine Ops.pure H (X.move rfl) rfl rfl rfl ?_
      refine Ops.pure H (X.move rfl) rfl rfl rfl ?_
      refine Ops.pure H (X.cmp rfl rfl rfl) rfl rfl rfl ?_
      (refine Ops.nil (hK _ _ ?_); clear hK K)
      refine Run.cond_dec rfl (fun h37 => ?x5) (fun h37 => ?y5)
      case' y5 => exfalso; omega
      case' x5 =>
        (refine Run.seq (Run.region ?_); intro K hK)
        refine Ops.pure H (X.assign rfl) rfl rfl rfl ?_
        (refine Ops.nil (hK _ _ ?_); clear hK K)
      (first | refine Fn.ret1 HF rfl rfl ?_ | refine Fn.ret2 HF rfl rfl rfl ?_ | refine Fn.ret3 HF rfl rfl rfl rfl ?_ | refine Fn.ret0 HF rfl ?_ | refine Fn.fin0 HF rfl ?_ | refine Fn.retG (E := env) HF rfl H (by first | exact RVs.cellN rfl rfl rfl (by repeat (first | exact .head | apply Pick.tail)) (by first | assumption | exact Cs.take rfl) RVs.nil | exact RVs.cellN rfl rfl rfl (by repeat (first | exact .head | apply Pick.tail)) (by first | assumption | exact Cs.take rfl) (RVs.tmp rfl RVs.nil) | exact RVs.cellN rfl rfl rfl (by repeat (first | exact .head | apply Pick.tail)) (by first | assumption | exact Cs.take rfl) (RVs.tmp rfl (RVs.tmp rfl RVs.nil))) rfl ?_)
      rw [← he]
      exact ⟨rfl, _, h2.ext H.fr, hf2.trans H.fr (by simp) (by simp)⟩
    rw [if_neg hIb] at he
    by_cases h50 : b - a < 50
    · rw [if_pos h50] at he
      have H := Holds.start w2 []
      refine Run.seq ?_
      (refine Run.seq (Run.region ?_); intro K hK)
      refine Ops.pure H (X.move rfl) rfl rfl rfl ?_
      refine Ops.pure H (X.move rfl) rfl rfl rfl ?_
      refine Ops.pure H (X.cmp rfl rfl rfl) rfl rfl rfl ?_
      (refine Ops.nil (hK _ _ ?_); clear hK K)
      refine Run.cond_dec rfl (fun h37 => ?x6) (fun h37 => ?y6)
      case' y6 =>
        refine Run.skip ?_
        refine Run.seq ?_
        (refine Run.seq (Run.region ?_); intro K hK)
        refine Ops.pure H (X.move rfl) rfl rfl rfl ?_
        refine Ops.pure H (X.move rfl) rfl rfl rfl ?_
        refine Ops.pure H (X.subN rfl rfl rfl rfl (by omega) (IntWalk.i64_in _ (by omega))) rfl rfl rfl ?_
        refine Ops.pure H (X.cmp rfl rfl rfl) rfl rfl rfl ?_
        (refine Ops.nil (hK _ _ ?_); clear hK K)
        refine Run.cond_dec rfl (fun h41 => ?x7) (fun h41 => ?y7)
        case' y7 => exfalso; omega
        case' x7 =>
          (refine Run.seq (Run.region ?_); intro K hK)
          refine Ops.pure H (X.assign rfl) rfl rfl rfl ?_
          (refine Ops.nil (hK _ _ ?_); clear hK K)
      case' x6 => exfalso; omega
      (first | refine Fn.ret1 HF rfl rfl ?_ | refine Fn.ret2 HF rfl rfl rfl ?_ | refine Fn.ret3 HF rfl rfl rfl rfl ?_ | refine Fn.ret0 HF rfl ?_ | refine Fn.fin0 HF rfl ?_ | refine Fn.retG (E := env) HF rfl H (by first | exact RVs.cellN rfl rfl rfl (by repeat (first | exact .head | apply Pick.tail)) (by first | assumption | exact Cs.take rfl) RVs.nil | exact RVs.cellN rfl rfl rfl (by repeat (first | exact .head | apply Pick.tail)) (by first | assumption | exact Cs.take rfl) (RVs.tmp rfl RVs.nil) | exact RVs.cellN rfl rfl rfl (by repeat (first | exact .head | apply Pick.tail)) (by first | assumption | exact Cs.take rfl) (RVs.tmp rfl (RVs.tmp rfl RVs.nil))) rfl ?_)
      rw [← he]
      exact ⟨rfl, _, h2.ext H.fr, hf2.trans H.fr (by simp) (by simp)⟩
    rw [if_neg h50] at he
    have c1 := h2.hc I (by omega)
    have c2 := h2.hc (I - 1) (by omega)
    have hl2 := h2.hl
    have H := (Holds.start w2 [blk]).add true h2.hb (by simp) (by simp)
    refine Run.seq ?_
    (refine Run.seq (Run.region ?_); intro K hK)
    refine Ops.pure H (X.move rfl) rfl rfl rfl ?_
    refine Ops.pure H (X.move rfl) rfl rfl rfl ?_
    refine Ops.pure H (X.cmp rfl rfl rfl) rfl rfl rfl ?_
    (refine Ops.nil (hK _ _ ?_); clear hK K)
    refine Run.cond_dec rfl (fun h37 => ?x8) (fun h37 => ?y8)
    case' y8 =>
      refine Run.skip ?_
      refine Run.seq ?_
      (refine Run.seq (Run.region ?_); intro K hK)
      refine Ops.pure H (X.move rfl) rfl rfl rfl ?_
      refine Ops.pure H (X.move rfl) rfl rfl rfl ?_
      refine Ops.pure H (X.subN rfl rfl rfl rfl (by omega) (IntWalk.i64_in _ (by omega))) rfl rfl rfl ?_
      refine Ops.pure H (X.cmp rfl rfl rfl) rfl rfl rfl ?_
      (refine Ops.nil (hK _ _ ?_); clear hK K)
      refine Run.cond_dec rfl (fun h41 => ?x9) (fun h41 => ?y9)
      case' y9 =>
        refine Run.skip ?_
        refine Run.seq ?_
        (refine Run.draw H [15, 17] [0, 1, 2, 3, 4, 5, 6, 7, 8, 9, 10, 11, 12, 13, 14, 15, 16, 17] ?_; clear H; intro K hK w H)
        refine Draw.take0 rfl (X.move rfl) rfl rfl rfl (by decide +kernel) ?_
        refine Draw.take0 rfl (X.move rfl) rfl rfl rfl (by decide +kernel) ?_
        refine Draw.take0 rfl (X.move rfl) rfl rfl rfl (by decide +kernel) ?_
        refine Draw.take0 rfl (X.move rfl) rfl rfl rfl (by decide +kernel) ?_
        refine Draw.take0 rfl (X.subN (j := 1) rfl rfl rfl rfl (by omega) (IntWalk.i64_in _ (by omega))) rfl rfl rfl (by decide +kernel) ?_
        refine Draw.take0 rfl (X.move rfl) rfl rfl rfl (by decide +kernel) ?_
        refine Draw.take0 rfl (X.move rfl) rfl rfl rfl (by decide +kernel) ?_
        refine Draw.take0 rfl (X.subN (j := 1) rfl rfl rfl rfl (by omega) (IntWalk.i64_in _ (by omega))) rfl rfl rfl (by decide +kernel) ?_
        refine Draw.take0 rfl (X.indexAddr rfl rfl (by omega) rfl rfl rfl rfl) rfl rfl rfl (by decide +kernel) ?_
        refine Draw.take rfl (X.load1 rfl rfl rfl rfl Pick.head (by assumption)) rfl rfl rfl (by decide +kernel) ?_
        refine Draw.take0 rfl (X.move rfl) rfl rfl rfl (by decide +kernel) ?_
        refine Draw.take0 rfl (X.move rfl) rfl rfl rfl (by decide +kernel) ?_
        refine Draw.take0 rfl (X.indexAddr rfl rfl (by omega) rfl rfl rfl rfl) rfl rfl rfl (by decide +kernel) ?_
        refine Draw.take rfl (X.load1 rfl rfl rfl rfl Pick.head (by assumption)) rfl rfl rfl (by decide +kernel) ?_
        refine Draw.take0 rfl (X.indexAddr rfl rfl (by omega) rfl rfl rfl rfl) rfl rfl rfl (by decide +kernel) ?_
        (refine Draw.last rfl rfl (by decide +kernel) (Y.storeI rfl rfl rfl rfl rfl rfl H Upd.head (by first | omega | (simp only [List.length_set]; omega)) ?_); intro w H0; clear H; have H := H0; clear H0)
        refine Draw2.take rfl (X.indexAddr rfl rfl (by omega) rfl rfl rfl rfl) rfl rfl rfl (by decide +kernel) ?_
        (refine Draw2.eff rfl rfl (by decide +kernel) (Y.storeI rfl rfl rfl rfl rfl rfl H Upd.head (by first | omega | (simp only [List.length_set]; omega)) ?_); intro w H0; clear H; have H := H0; clear H0)
        (refine Draw2.done (by decide +kernel) (hK _ _ ?_); clear hK K)
      case' x9 => exfalso; omega
    case' x8 => exfalso; omega
    have h3 := h2.swp1 (i := I) (j := I - 1) (by omega) (by omega) (H.pick .head)
    have hf3 := hf2.trans (U := [blk]) H.fr (by simp) (by simp)
    clear H
    obtain ⟨d2, hd2⟩ : ∃ d2, d2 = Sort.swp d1 I (I - 1) := ⟨_, rfl⟩
    obtain ⟨d3, hd3⟩ : ∃ d3, d3 = if I - a ≥ 2 then Sort.shiftDown ltU (I - 1) d2 else d2 := ⟨_, rfl⟩
    have hs2 : d2.size = n := by rw [hd2, swp_size]; exact hs1
    rw [← hd2, ← hd3] at he
    rw [← hd2] at h3
    clear c1 c2 hl2
    refine Run.seq ?_
    refine Run.meet (fun (_ : Unit) => [(0, .slice (some ⟨blk, off, none⟩) n cap), (1, .int .i64 (a : Nat)), (2, .int .i64 (b : Nat)), (7, .int .i64 (I : Nat)), (8, .int .i64 (s0 : Nat))]) (fun _ w' => d3.size = n ∧ (∃ cs' : List Value, Ar w' blk off d3 cs') ∧ Fr z w' [blk]) ?_ ?_
    rotate_left
    · intro kk go
      by_cases ha2 : I - a ≥ 2
      · rw [if_pos ha2] at hd3
        have H := Holds.start w []
        (refine Run.seq (Run.region ?_); intro K hK)
        refine Ops.pure H (X.move rfl) rfl rfl rfl ?_
        refine Ops.pure H (X.move rfl) rfl rfl rfl ?_
        refine Ops.pure H (X.subN rfl rfl rfl rfl (by omega) (IntWalk.i64_in _ (by omega))) rfl rfl rfl ?_
        refine Ops.pure H (X.cmp rfl rfl rfl) rfl rfl rfl ?_
        (refine Ops.nil (hK _ _ ?_); clear hK K)
        refine Run.cond_dec rfl (fun h61 => ?x10) (fun h61 => ?y10)
        case' y10 => exfalso; omega
        case' x10 =>
          (refine Run.seq (Run.region ?_); intro K hK)
          refine Ops.pure H (X.move rfl) rfl rfl rfl ?_
          refine Ops.pure H (X.subN (j := 1) rfl rfl rfl rfl (by omega) (IntWalk.i64_in _ (by omega))) rfl rfl rfl ?_
          refine Ops.pure H (X.assign rfl) rfl rfl rfl ?_
          (refine Ops.nil (hK _ _ ?_); clear hK K)
          refine Run.block ?_
        refine Run.rounds (fun (j : Nat) => [(0, .slice (some ⟨blk, off, none⟩) n cap), (1, .int .i64 (a : Nat)), (2, .int .i64 (b : Nat)), (7, .int .i64 (I : Nat)), (8, .int .i64 (s0 : Nat)), (9, .int .i64 (j : Nat))])
          (fun j w' => j ≤ I - 1 ∧ ∃ (d' : Array Int) (cs' : List Value), d'.size = n ∧ Ar w' blk off d' cs' ∧ Sort.shiftDown ltU j d' = d3 ∧ Fr z w' [blk]) (fun j => j) (I - 1) (by repeat (first | exact trivial | refine ⟨rfl, ?_⟩)) ⟨by omega, d2, _, hs2, h3.ext H.fr, hd3.symm, hf3.trans H.fr (by simp) (by simp)⟩ ?_
        clear H
        rintro j w4 ⟨hj, d4, cs4, hs4, h4, he4, hf4⟩ IH4
        by_cases hj1 : 1 ≤ j
        · obtain ⟨q, rfl⟩ : ∃ q, j = q + 1 := ⟨j - 1, by omega⟩
          rw [Sort.shiftDown] at he4
          have c1 := h4.hc (q + 1) (by omega)
          have c2 := h4.hc q (by omega)
          have hl4 := h4.hl
          have H := (Holds.start w4 [blk]).add true h4.hb (by simp) (by simp)
          refine Run.seq ?_
          (refine Run.seq (Run.region ?_); intro K hK)
          refine Ops.pure H (X.move rfl) rfl rfl rfl ?_
          refine Ops.pure H (X.cmp rfl rfl rfl) rfl rfl rfl ?_
          (refine Ops.nil (hK _ _ ?_); clear hK K)
          refine Run.cond_dec rfl (fun h65 => ?x11) (fun h65 => ?y11)
          case' y11 => exfalso; omega
          case' x11 =>
            refine Run.skip ?_
            refine Run.seq ?_
            refine Run.block ?_
            refine Run.seq ?_
            refine Run.seq ?_
            (refine Run.draw H [9] [0, 1, 2, 3, 4, 5, 6, 7, 8, 9, 10] ?_; clear H; intro K hK w H)
            refine Draw.take0 rfl (X.move rfl) rfl rfl rfl (by decide +kernel) ?_
            refine Draw.take0 rfl (X.move rfl) rfl rfl rfl (by decide +kernel) ?_
            refine Draw.take0 rfl (X.indexAddr rfl rfl (by omega) rfl rfl rfl rfl) rfl rfl rfl (by decide +kernel) ?_
            refine Draw.take rfl (X.load1 rfl rfl rfl rfl Pick.head (by assumption)) rfl rfl rfl (by decide +kernel) ?_
            refine Draw.take0 rfl (X.move rfl) rfl rfl rfl (by decide +kernel) ?_
            refine Draw.take0 rfl (X.move rfl) rfl rfl rfl (by decide +kernel) ?_
            refine Draw.take0 rfl (X.pred rfl rfl (by omega)) rfl rfl rfl (by decide +kernel) ?_
            refine Draw.take0 rfl (X.indexAddr rfl rfl (by omega) rfl rfl rfl rfl) rfl rfl rfl (by decide +kernel) ?_
            refine Draw.take rfl (X.load1 rfl rfl rfl rfl Pick.head (by assumption)) rfl rfl rfl (by decide +kernel) ?_
          refine Draw.last rfl rfl (by decide +kernel) (Y.call rfl rfl (by first | assumption | decide +kernel) rfl (less_any _ d4[q + 1]! d4[q]!) rfl ?_)
          rintro v w5 ⟨rfl, rfl⟩
          by_cases hlt : d4[q + 1]! < d4[q]!
          · rw [if_neg (by simp [ltU]; omega)] at he4
            refine Draw2.take rfl (X.not rfl) rfl rfl rfl (by decide +kernel) ?_
            (refine Draw2.done (by decide +kernel) (hK _ _ ?_); clear hK K)
            refine Run.cond_ndec rfl (fun h78 => ?x12) (fun h78 => ?y12)
            case' y12 =>
              refine Run.skip ?_
              (refine Run.draw H [15, 17] [0, 1, 2, 3, 4, 5, 6, 7, 8, 9, 10, 11, 12, 13, 14, 15, 16, 17] ?_; clear H; intro K hK w H)
              refine Draw.take0 rfl (X.move rfl) rfl rfl rfl (by decide +kernel) ?_
              refine Draw.take0 rfl (X.move rfl) rfl rfl rfl (by decide +kernel) ?_
              refine Draw.take0 rfl (X.move rfl) rfl rfl rfl (by decide +kernel) ?_
              refine Draw.take0 rfl (X.move rfl) rfl rfl rfl (by decide +kernel) ?_
              refine Draw.take0 rfl (X.pred rfl rfl (by omega)) rfl rfl rfl (by decide +kernel) ?_
              refine Draw.take0 rfl (X.move rfl) rfl rfl rfl (by decide +kernel) ?_
              refine Draw.take0 rfl (X.move rfl) rfl rfl rfl (by decide +kernel) ?_
              refine Draw.take0 rfl (X.pred rfl rfl (by omega)) rfl rfl rfl (by decide +kernel) ?_
              refine Draw.take0 rfl (X.indexAddr rfl rfl (by omega) rfl rfl rfl rfl) rfl rfl rfl (by decide +kernel) ?_
              refine Draw.take rfl (X.load1 rfl rfl rfl rfl Pick.head (by assumption)) rfl rfl rfl (by decide +kernel) ?_
              refine Draw.take0 rfl (X.move rfl) rfl rfl rfl (by decide +kernel) ?_
              refine Draw.take0 rfl (X.move rfl) rfl rfl rfl (by decide +kernel) ?_
              refine Draw.take0 rfl (X.indexAddr rfl rfl (by omega) rfl rfl rfl rfl) rfl rfl rfl (by decide +kernel) ?_
              refine Draw.take rfl (X.load1 rfl rfl rfl rfl Pick.head (by assumption)) rfl rfl rfl (by decide +kernel) ?_
              refine Draw.take0 rfl (X.indexAddr rfl rfl (by omega) rfl rfl rfl rfl) rfl rfl rfl (by decide +kernel) ?_
              (refine Draw.last rfl rfl (by decide +kernel) (Y.storeI rfl rfl rfl rfl rfl rfl H Upd.head (by first | omega | (simp only [List.length_set]; omega)) ?_); intro w H0; clear H; have H := H0; clear H0)
              refine Draw2.take rfl (X.indexAddr rfl rfl (by omega) rfl rfl rfl rfl) rfl rfl rfl (by decide +kernel) ?_
              (refine Draw2.eff rfl rfl (by decide +kernel) (Y.storeI rfl rfl rfl rfl rfl rfl H Upd.head (by first | omega | (simp only [List.length_set]; omega)) ?_); intro w H0; clear H; have H := H0; clear H0)
              (refine Draw2.done (by decide +kernel) (hK _ _ ?_); clear hK K)
              refine Run.inBlock ?_
              (refine Run.region ?_; intro K hK)
              refine Ops.pure H (X.move rfl) rfl rfl rfl ?_
              refine Ops.pure H (X.pred rfl rfl (by omega)) rfl rfl rfl ?_
              refine Ops.pure H (X.assign rfl) rfl rfl rfl ?_
              (refine Ops.nil (hK _ _ ?_); clear hK K)
            case' x12 => exfalso; omega
            exact (IH4 q _ (by omega) ⟨by omega, _, _, by rw [swp_size]; exact hs4, h4.swp1 (i := q + 1) (j := q) (by omega) (by omega) (H.pick .head), he4, hf4.trans H.fr (by simp) (by simp)⟩).weak (by repeat (first | exact trivial | refine ⟨rfl, ?_⟩))
          · rw [if_pos (by simp [ltU]; omega)] at he4
            refine Draw2.take rfl (X.not rfl) rfl rfl rfl (by decide +kernel) ?_
            (refine Draw2.done (by decide +kernel) (hK _ _ ?_); clear hK K)
            refine Run.cond_ndec rfl (fun h78 => ?x13) (fun h78 => ?y13)
            case' y13 => exfalso; omega
            case' x13 =>
              refine Run.exit rfl ?_
            subst he4
            exact go () _ _ ⟨hs4, ⟨_, h4.keepH H.fr (H.pick .head)⟩, hf4.trans H.fr (by simp) (by simp)⟩ (by repeat (first | exact trivial | refine ⟨rfl, ?_⟩))
        · obtain rfl : j = 0 := by omega
          have he4' : d4 = d3 := he4
          have H := Holds.start w4 []
          refine Run.seq ?_
          (refine Run.seq (Run.region ?_); intro K hK)
          refine Ops.pure H (X.move rfl) rfl rfl rfl ?_
          refine Ops.pure H (X.cmp rfl rfl rfl) rfl rfl rfl ?_
          (refine Ops.nil (hK _ _ ?_); clear hK K)
          refine Run.cond_false rfl ?_
          refine Run.exit rfl ?_
          subst he4'
          exact go () _ _ ⟨hs4, ⟨_, h4.ext H.fr⟩, hf4.trans H.fr (by simp) (by simp)⟩ (by repeat (first | exact trivial | refine ⟨rfl, ?_⟩))
      · rw [if_neg ha2] at hd3
        have H := Holds.start w []
        (refine Run.seq (Run.region ?_); intro K hK)
        refine Ops.pure H (X.move rfl) rfl rfl rfl ?_
        refine Ops.pure H (X.move rfl) rfl rfl rfl ?_
        refine Ops.pure H (X.subN rfl rfl rfl rfl (by omega) (IntWalk.i64_in _ (by omega))) rfl rfl rfl ?_
        refine Ops.pure H (X.cmp rfl rfl rfl) rfl rfl rfl ?_
        (refine Ops.nil (hK _ _ ?_); clear hK K)
        refine Run.cond_dec rfl (fun h61 => ?x14) (fun h61 => ?y14)
        case' y14 =>
          refine Run.skip ?_
        case' x14 => exfalso; omega
        subst hd3
        exact go () _ _ ⟨hs2, ⟨_, h3.ext H.fr⟩, hf3.trans H.fr (by simp) (by simp)⟩ (by repeat (first | exact trivial | refine ⟨rfl, ?_⟩))
    clear h3 hf3
    rintro _ w3 ⟨hs3, ⟨cs3, h3⟩, hf3⟩
    obtain ⟨d5, hd5⟩ : ∃ d5, d5 = if b - I ≥ 2 then Sort.shiftUp ltU b (I + 1) d3 else d3 := ⟨_, rfl⟩
    rw [← hd5] at he
    by_cases hb2 : b - I ≥ 2
    · rw [if_pos hb2] at hd5
      have H := Holds.start w3 []
      (refine Run.seq (Run.region ?_); intro K hK)
      refine Ops.pure H (X.move rfl) rfl rfl rfl ?_
      refine Ops.pure H (X.move rfl) rfl rfl rfl ?_
      refine Ops.pure H (X.subN rfl rfl rfl rfl (by omega) (IntWalk.i64_in _ (by omega))) rfl rfl rfl ?_
      refine Ops.pure H (X.cmp rfl rfl rfl) rfl rfl rfl ?_
      (refine Ops.nil (hK _ _ ?_); clear hK K)
      refine Run.cond_dec rfl (fun h98 => ?x15) (fun h98 => ?y15)
      case' y15 => exfalso; omega
      case' x15 =>
        (refine Run.seq (Run.region ?_); intro K hK)
        refine Ops.pure H (X.move rfl) rfl rfl rfl ?_
        refine Ops.pure H (X.succ rfl rfl (by omega)) rfl rfl rfl ?_
        refine Ops.pure H (X.assign rfl) rfl rfl rfl ?_
        (refine Ops.nil (hK _ _ ?_); clear hK K)
        refine Run.block ?_
      refine Run.rounds (fun (j : Nat) => [(0, .slice (some ⟨blk, off, none⟩) n cap), (1, .int .i64 (a : Nat)), (2, .int .i64 (b : Nat)), (7, .int .i64 (I : Nat)), (8, .int .i64 (s0 : Nat)), (10, .int .i64 (j : Nat))])
        (fun j w' => I + 1 ≤ j ∧ j ≤ b ∧ ∃ (d' : Array Int) (cs' : List Value), d'.size = n ∧ Ar w' blk off d' cs' ∧ Sort.shiftUp ltU b j d' = d5 ∧ Fr z w' [blk]) (fun j => b - j) (I + 1) (by repeat (first | exact trivial | refine ⟨rfl, ?_⟩)) ⟨by omega, by omega, d3, _, hs3, h3.ext H.fr, hd5.symm, hf3.trans H.fr (by simp) (by simp)⟩ ?_
      clear H
      rintro j w4 ⟨hj, hjb, d4, cs4, hs4, h4, he4, hf4⟩ IH4
      rw [Sort.shiftUp] at he4
      by_cases hj1 : j < b
      · rw [if_pos hj1] at he4
        have c1 := h4.hc j (by omega)
        have c2 := h4.hc (j - 1) (by omega)
        have hl4 := h4.hl
        have H := (Holds.start w4 [blk]).add true h4.hb (by simp) (by simp)
        refine Run.seq ?_
        (refine Run.seq (Run.region ?_); intro K hK)
        refine Ops.pure H (X.move rfl) rfl rfl rfl ?_
        refine Ops.pure H (X.move rfl) rfl rfl rfl ?_
        refine Ops.pure H (X.cmp rfl rfl rfl) rfl rfl rfl ?_
        (refine Ops.nil (hK _ _ ?_); clear hK K)
        refine Run.cond_dec rfl (fun h103 => ?x16) (fun h103 => ?y16)
        case' y16 => exfalso; omega
        case' x16 =>
          refine Run.skip ?_
          refine Run.seq ?_
          refine Run.block ?_
          refine Run.seq ?_
          refine Run.seq ?_
          (refine Run.draw H [9] [0, 1, 2, 3, 4, 5, 6, 7, 8, 9, 10] ?_; clear H; intro K hK w H)
          refine Draw.take0 rfl (X.move rfl) rfl rfl rfl (by decide +kernel) ?_
          refine Draw.take0 rfl (X.move rfl) rfl rfl rfl (by decide +kernel) ?_
          refine Draw.take0 rfl (X.indexAddr rfl rfl (by omega) rfl rfl rfl rfl) rfl rfl rfl (by decide +kernel) ?_
          refine Draw.take rfl (X.load1 rfl rfl rfl rfl Pick.head (by assumption)) rfl rfl rfl (by decide +kernel) ?_
          refine Draw.take0 rfl (X.move rfl) rfl rfl rfl (by decide +kernel) ?_
          refine Draw.take0 rfl (X.move rfl) rfl rfl rfl (by decide +kernel) ?_
          refine Draw.take0 rfl (X.subN (j := 1) rfl rfl rfl rfl (by omega) (IntWalk.i64_in _ (by omega))) rfl rfl rfl (by decide +kernel) ?_
          refine Draw.take0 rfl (X.indexAddr rfl rfl (by omega) rfl rfl rfl rfl) rfl rfl rfl (by decide +kernel) ?_
          refine Draw.take rfl (X.load1 rfl rfl rfl rfl Pick.head (by assumption)) rfl rfl rfl (by decide +kernel) ?_
        refine Draw.last rfl rfl (by decide +kernel) (Y.call rfl rfl (by first | assumption | decide +kernel) rfl (less_any _ d4[j]! d4[j - 1]!) rfl ?_)
        rintro v w5 ⟨rfl, rfl⟩
        by_cases hlt : d4[j]! < d4[j - 1]!
        · rw [if_neg (by simp [ltU]; omega)] at he4
          refine Draw2.take rfl (X.not rfl) rfl rfl rfl (by decide +kernel) ?_
          (refine Draw2.done (by decide +kernel) (hK _ _ ?_); clear hK K)
          refine Run.cond_ndec rfl (fun h116 => ?x17) (fun h116 => ?y17)
          case' y17 =>
            refine Run.skip ?_
            (refine Run.draw H [15, 17] [0, 1, 2, 3, 4, 5, 6, 7, 8, 9, 10, 11, 12, 13, 14, 15, 16, 17] ?_; clear H; intro K hK w H)
            refine Draw.take0 rfl (X.move rfl) rfl rfl rfl (by decide +kernel) ?_
            refine Draw.take0 rfl (X.move rfl) rfl rfl rfl (by decide +kernel) ?_
            refine Draw.take0 rfl (X.move rfl) rfl rfl rfl (by decide +kernel) ?_
            refine Draw.take0 rfl (X.move rfl) rfl rfl rfl (by decide +kernel) ?_
            refine Draw.take0 rfl (X.subN (j := 1) rfl rfl rfl rfl (by omega) (IntWalk.i64_in _ (by omega))) rfl rfl rfl (by decide +kernel) ?_
            refine Draw.take0 rfl (X.move rfl) rfl rfl rfl (by decide +kernel) ?_
            refine Draw.take0 rfl (X.move rfl) rfl rfl rfl (by decide +kernel) ?_
            refine Draw.take0 rfl (X.subN (j := 1) rfl rfl rfl rfl (by omega) (IntWalk.i64_in _ (by omega))) rfl rfl rfl (by decide +kernel) ?_
            refine Draw.take0 rfl (X.indexAddr rfl rfl (by omega) rfl rfl rfl rfl) rfl rfl rfl (by decide +kernel) ?_
            refine Draw.take rfl (X.load1 rfl rfl rfl rfl Pick.head (by assumption)) rfl rfl rfl (by decide +kernel) ?_
            refine Draw.take0 rfl (X.move rfl) rfl rfl rfl (by decide +kernel) ?_
            refine Draw.take0 rfl (X.move rfl) rfl rfl rfl (by decide +kernel) ?_
            refine Draw.take0 rfl (X.indexAddr rfl rfl (by omega) rfl rfl rfl rfl) rfl rfl rfl (by decide +kernel) ?_
            refine Draw.take rfl (X.load1 rfl rfl rfl rfl Pick.head (by assumption)) rfl rfl rfl (by decide +kernel) ?_
            refine Draw.take0 rfl (X.indexAddr rfl rfl (by omega) rfl rfl rfl rfl) rfl rfl rfl (by decide +kernel) ?_
            (refine Draw.last rfl rfl (by decide +kernel) (Y.storeI rfl rfl rfl rfl rfl rfl H Upd.head (by first | omega | (simp only [List.length_set]; omega)) ?_); intro w H0; clear H; have H := H0; clear H0)
            refine Draw2.take rfl (X.indexAddr rfl rfl (by omega) rfl rfl rfl rfl) rfl rfl rfl (by decide +kernel) ?_
            (refine Draw2.eff rfl rfl (by decide +kernel) (Y.storeI rfl rfl rfl rfl rfl rfl H Upd.head (by first | omega | (simp only [List.length_set]; omega)) ?_); intro w H0; clear H; have H := H0; clear H0)
            (refine Draw2.done (by decide +kernel) (hK _ _ ?_); clear hK K)
            refine Run.inBlock ?_
            (refine Run.region ?_; intro K hK)
            refine Ops.pure H (X.move rfl) rfl rfl rfl ?_
            refine Ops.pure H (X.succ rfl rfl (by omega)) rfl rfl rfl ?_
            refine Ops.pure H (X.assign rfl) rfl rfl rfl ?_
            (refine Ops.nil (hK _ _ ?_); clear hK K)
          case' x17 => exfalso; omega
          exact (IH4 (j + 1) _ (by omega) ⟨by omega, by omega, _, _, by rw [swp_size]; exact hs4, h4.swp1 (i := j) (j := j - 1) (by omega) (by omega) (H.pick .head), he4, hf4.trans H.fr (by simp) (by simp)⟩).weak (by repeat (first | exact trivial | refine ⟨rfl, ?_⟩))
        · rw [if_pos (by simp [ltU]; omega)] at he4
          refine Draw2.take rfl (X.not rfl) rfl rfl rfl (by decide +kernel) ?_
          (refine Draw2.done (by decide +kernel) (hK _ _ ?_); clear hK K)
          refine Run.cond_ndec rfl (fun h116 => ?x18) (fun h116 => ?y18)
          case' y18 => exfalso; omega
          case' x18 =>
            refine Run.exit rfl ?_
            refine Run.inBlock ?_
            (refine Run.region ?_; intro K hK)
            refine Ops.pure H (X.move rfl) rfl rfl rfl ?_
            refine Ops.pure H (X.succ rfl rfl (by omega)) rfl rfl rfl ?_
            refine Ops.pure H (X.assign rfl) rfl rfl rfl ?_
            (refine Ops.nil (hK _ _ ?_); clear hK K)
          subst he4
          exact (IH (I, s0 + 1) _ (by dsimp only; omega) ⟨by dsimp only; omega, by dsimp only; omega, by dsimp only; omega, _, _, hs4, h4.keepH H.fr (H.pick .head), by dsimp only; rw [← he]; congr 1; omega, hf4.trans H.fr (by simp) (by simp)⟩).weak (by repeat (first | exact trivial | refine ⟨rfl, ?_⟩))
      · rw [if_neg hj1] at he4
        have H := Holds.start w4 []
        refine Run.seq ?_
        (refine Run.seq (Run.region ?_); intro K hK)
        refine Ops.pure H (X.move rfl) rfl rfl rfl ?_
        refine Ops.pure H (X.move rfl) rfl rfl rfl ?_
        refine Ops.pure H (X.cmp rfl rfl rfl) rfl rfl rfl ?_
        (refine Ops.nil (hK _ _ ?_); clear hK K)
        refine Run.cond_dec rfl (fun h103 => ?x19) (fun h103 => ?y19)
        case' y19 =>
          refine Run.exit rfl ?_
          refine Run.inBlock ?_
          (refine Run.region ?_; intro K hK)
          refine Ops.pure H (X.move rfl) rfl rfl rfl ?_
          refine Ops.pure H (X.succ rfl rfl (by omega)) rfl rfl rfl ?_
          refine Ops.pure H (X.assign rfl) rfl rfl rfl ?_
          (refine Ops.nil (hK _ _ ?_); clear hK K)
        case' x19 => exfalso; omega
        subst he4
        exact (IH (I, s0 + 1) _ (by dsimp only; omega) ⟨by dsimp only; omega, by dsimp only; omega, by dsimp only; omega, _, _, hs4, h4.ext H.fr, by dsimp only; rw [← he]; congr 1; omega, hf4.trans H.fr (by simp) (by simp)⟩).weak (by repeat (first | exact trivial | refine ⟨rfl, ?_⟩))
    · rw [if_neg hb2] at hd5
      have H := Holds.start w3 []
      (refine Run.seq (Run.region ?_); intro K hK)
      refine Ops.pure H (X.move rfl) rfl rfl rfl ?_
      refine Ops.pure H (X.move rfl) rfl rfl rfl ?_
      refine Ops.pure H (X.subN rfl rfl rfl rfl (by omega) (IntWalk.i64_in _ (by omega))) rfl rfl rfl ?_
      refine Ops.pure H (X.cmp rfl rfl rfl) rfl rfl rfl ?_
      (refine Ops.nil (hK _ _ ?_); clear hK K)
      refine Run.cond_dec rfl (fun h98 => ?x20) (fun h98 => ?y20)
      case' y20 =>
        refine Run.skip ?_
        refine Run.inBlock ?_
        (refine Run.region ?_; intro K hK)
        refine Ops.pure H (X.move rfl) rfl rfl rfl ?_
        refine Ops.pure H (X.succ rfl rfl (by omega)) rfl rfl rfl ?_
        refine Ops.pure H (X.assign rfl) rfl rfl rfl ?_
        (refine Ops.nil (hK _ _ ?_); clear hK K)
      case' x20 => exfalso; omega
      subst hd5
      exact (IH (I, s0 + 1) _ (by dsimp only; omega) ⟨by dsimp only; omega, by dsimp only; omega, by dsimp only; omega, _, _, hs3, h3.ext H.fr, by dsimp only; rw [← he]; congr 1; omega, hf3.trans H.fr (by simp) (by simp)⟩).weak (by repeat (first | exact trivial | refine ⟨rfl, ?_⟩))
  · obtain rfl : s0 = 5 := by omega
    have he' : (d1, false) = R := he
    have H := Holds.start w1 []
    refine Run.seq ?_
    (refine Run.seq (Run.region ?_); intro K hK)
    refine Ops.pure H (X.move rfl) rfl rfl rfl ?_
    refine Ops.pure H (X.cmp rfl rfl rfl) rfl rfl rfl ?_
    (refine Ops.nil (hK _ _ ?_); clear hK K)
    refine Run.cond_false rfl ?_
    refine Run.exit rfl ?_
    (refine Run.seq (Run.region ?_); intro K hK)
    refine Ops.pure H (X.assign rfl) rfl rfl rfl ?_
    (refine Ops.nil (hK _ _ ?_); clear hK K)
    (first | refine Fn.ret1 HF rfl rfl ?_ | refine Fn.ret2 HF rfl rfl rfl ?_ | refine Fn.ret3 HF rfl rfl rfl rfl ?_ | refine Fn.ret0 HF rfl ?_ | refine Fn.fin0 HF rfl ?_ | refine Fn.retG (E := env) HF rfl H (by first | exact RVs.cellN rfl rfl rfl (by repeat (first | exact .head | apply Pick.tail)) (by first | assumption | exact Cs.take rfl) RVs.nil | exact RVs.cellN rfl rfl rfl (by repeat (first | exact .head | apply Pick.tail)) (by first | assumption | exact Cs.take rfl) (RVs.tmp rfl RVs.nil) | exact RVs.cellN rfl rfl rfl (by repeat (first | exact .head | apply Pick.tail)) (by first | assumption | exact Cs.take rfl) (RVs.tmp rfl (RVs.tmp rfl RVs.nil))) rfl ?_)
    rw [← he']
    exact ⟨rfl, _, h1.ext H.fr, hf1.trans H.fr (by simp) (by simp)⟩
end Go.Proofs.Ytaneenahapdabaa
