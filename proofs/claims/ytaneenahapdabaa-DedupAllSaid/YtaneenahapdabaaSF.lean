/- The library's sort, walked: the partitions. -/
import Derived.Test.YtaneenahapdabaaSE
namespace Go.Proofs.Ytaneenahapdabaa
open Go
set_option maxRecDepth 20000
set_option maxHeartbeats 2000000
attribute [local irreducible] Run Ops Fn Draw Draw2 PureOp StepZ

/-- where the scans have not crossed, they stand apart -/
theorem scans_lt (p q : Int → Bool) (hq : ∀ x, q x = !p x) (d : Array Int) (i j I J : Nat) (hi : 1 ≤ i) (hij : i ≤ j + 1) (hI : I = Sort.scanUp p d j i) (hJ : J = Sort.scanDown q d I j) (h : ¬ I > J) : I < J := by
  subst hI
  subst hJ
  exact ((Sort.round_facts p q hq d (i - 1) (j + 1) i j (by omega) hij (fun t h1 h2 => by omega) (fun t h1 h2 => by omega)).2.2.2.2.2.2 h).2.2

theorem part_any (z : World) (blk off cap : Nat) (d : Array Int) (cs : List Value) (a b pv : Nat) {n : Nat} (hn : d.size = n) (h : Ar z blk off d cs) (ha : a ≤ pv) (hpb : pv < b) (hb : b ≤ n) (hm : n ≤ 2305843009213693951) :
    Fn env.P 73 [.slice (some ⟨blk, off, none⟩) n cap, .int .i64 (a : Nat), .int .i64 (b : Nat), .int .i64 (pv : Nat)] z fun v w' => v = .tuple #[.int .i64 ((Sort.partition ltU d a b pv).1 : Nat), .bool (Sort.partition ltU d a b pv).2.1] ∧ ∃ cs', Ar w' blk off (Sort.partition ltU d a b pv).2.2 cs' ∧ Fr z w' [blk] := by
  have c1 := h.hc a (by omega)
  have c2 := h.hc pv (by omega)
  have hl := h.hl
  have H := (Holds.start z [blk]).add true h.hb (by simp) (by simp)
  have HF := Try.func73; refine Fn.enter Try.func73 Try.ntmps73 rfl rfl rfl ?_
  (refine Run.seq (Run.region ?_); intro K hK)
  refine Ops.pure H (X.assign rfl) rfl rfl rfl ?_
  refine Ops.pure H (X.assign rfl) rfl rfl rfl ?_
  (refine Ops.nil (hK _ _ ?_); clear hK K)
  refine Run.seq ?_
  (refine Run.draw H [13, 15] [0, 1, 2, 3, 4, 5, 6, 7, 8, 9, 10, 11, 12, 13, 14, 15] ?_; clear H; intro K hK w H)
  refine Draw.take0 rfl (X.move rfl) rfl rfl rfl (by decide +kernel) ?_
  refine Draw.take0 rfl (X.move rfl) rfl rfl rfl (by decide +kernel) ?_
  refine Draw.take0 rfl (X.move rfl) rfl rfl rfl (by decide +kernel) ?_
  refine Draw.take0 rfl (X.move rfl) rfl rfl rfl (by decide +kernel) ?_
  refine Draw.take0 rfl (X.move rfl) rfl rfl rfl (by decide +kernel) ?_
  refine Draw.take0 rfl (X.move rfl) rfl rfl rfl (by decide +kernel) ?_
  refine Draw.take0 rfl (X.indexAddr rfl rfl (by omega) rfl rfl rfl rfl) rfl rfl rfl (by decide +kernel) ?_
  refine Draw.take rfl (X.load1 rfl rfl rfl rfl Pick.head (by assumption)) rfl rfl rfl (by decide +kernel) ?_
  refine Draw.take0 rfl (X.move rfl) rfl rfl rfl (by decide +kernel) ?_
  refine Draw.take0 rfl (X.move rfl) rfl rfl rfl (by decide +kernel) ?_
  refine Draw.take0 rfl (X.indexAddr rfl rfl (by omega) rfl rfl rfl rfl) rfl rfl rfl (by decide +kernel) ?_
  refine Draw.take rfl (X.load1 rfl rfl rfl rfl Pick.head (by assumption)) rfl rfl rfl (by decide +kernel) ?_
  refine Draw.take0 rfl (X.indexAddr rfl rfl (by omega) rfl rfl rfl rfl) rfl rfl rfl (by decide +kernel) ?_
  (refine Draw.last rfl rfl (by decide +kernel) (Y.storeI rfl rfl rfl rfl rfl rfl H Upd.head (by first | omega | (simp only [List.length_set]; omega)) ?_); intro w H0; clear H; have H := H0; clear H0)
  refine Draw2.take rfl (X.indexAddr rfl rfl (by omega) rfl rfl rfl rfl) rfl rfl rfl (by decide +kernel) ?_
  (refine Draw2.eff rfl rfl (by decide +kernel) (Y.storeI rfl rfl rfl rfl rfl rfl H Upd.head (by first | omega | (simp only [List.length_set]; omega)) ?_); intro w H0; clear H; have H := H0; clear H0)
  (refine Draw2.done (by decide +kernel) (hK _ _ ?_); clear hK K)
  (refine Run.seq (Run.region ?_); intro K hK)
  refine Ops.pure H (X.move rfl) rfl rfl rfl ?_
  refine Ops.pure H (X.succ rfl rfl (by omega)) rfl rfl rfl ?_
  refine Ops.pure H (X.move rfl) rfl rfl rfl ?_
  refine Ops.pure H (X.subN (j := 1) rfl rfl rfl rfl (by omega) (IntWalk.i64_in _ (by omega))) rfl rfl rfl ?_
  refine Ops.pure H (X.assign rfl) rfl rfl rfl ?_
  refine Ops.pure H (X.assign rfl) rfl rfl rfl ?_
  (refine Ops.nil (hK _ _ ?_); clear hK K)
  obtain ⟨d1, hd1⟩ : ∃ d1, d1 = Sort.swp d a pv := ⟨_, rfl⟩
  have hs1 : d1.size = n := by rw [hd1, swp_size]; exact hn
  obtain ⟨cs1, h1, hf1⟩ : ∃ cs1, Ar _ blk off d1 cs1 ∧ Fr z _ [blk] := ⟨_, by rw [hd1]; exact h.swp1 (i := a) (j := pv) (by omega) (by omega) (H.pick .head), H.fr⟩
  clear H
  obtain ⟨I, hI⟩ : ∃ I, I = Sort.scanUp (fun x => ltU x d1[a]!) d1 (b - 1) (a + 1) := ⟨_, rfl⟩
  refine Run.seq ?_
  refine Run.meet (fun (_ : Unit) => [(0, .slice (some ⟨blk, off, none⟩) n cap), (1, .int .i64 (a : Nat)), (10, .int .i64 (I : Nat)), (11, .int .i64 ((b - 1 : Nat) : Nat))]) (fun _ w' => 1 ≤ I ∧ I ≤ b - 1 + 1 ∧ Ar w' blk off d1 cs1 ∧ Fr z w' [blk]) ?_ ?_
  rotate_left
  · intro kk go
    refine Run.block ?_
    refine Run.rounds (fun (i : Nat) => [(0, .slice (some ⟨blk, off, none⟩) n cap), (1, .int .i64 (a : Nat)), (10, .int .i64 (i : Nat)), (11, .int .i64 ((b - 1) : Nat))])
      (fun i w' => 1 ≤ i ∧ i ≤ (b - 1) + 1 ∧ Ar w' blk off d1 cs1 ∧ Sort.scanUp (fun x => ltU x d1[a]!) d1 (b - 1) i = I ∧ Fr z w' [blk]) (fun i => (b - 1) + 1 - i) (a + 1) (by repeat (first | exact trivial | refine ⟨rfl, ?_⟩)) ⟨by omega, by omega, h1, hI.symm, hf1⟩ ?_
    rintro i w2 ⟨hi1, hi2, h2, he2, hf2⟩ IH
    rw [Sort.scanUp] at he2
    by_cases hij : i ≤ (b - 1)
    · have c1 := h2.hc i (by omega)
      have c2 := h2.hc a (by omega)
      have H := (Holds.start w2 [blk]).add true h2.hb (by simp) (by simp)
      refine Run.seq ?_
      refine Run.seq ?_
      (refine Run.draw H [12] [0, 1, 2, 3, 4, 5, 6, 7, 8, 9, 10, 11, 12, 13] ?_; clear H; intro K hK w H)
      refine Draw.take0 rfl (X.move rfl) rfl rfl rfl (by decide +kernel) ?_
      refine Draw.take0 rfl (X.move rfl) rfl rfl rfl (by decide +kernel) ?_
      refine Draw.take0 rfl (X.cmp rfl rfl rfl) rfl rfl rfl (by decide +kernel) ?_
      refine Draw.take0 rfl (X.move rfl) rfl rfl rfl (by decide +kernel) ?_
      refine Draw.split_dec rfl rfl rfl (fun h34 => ?x0) (fun h34 => ?y0)
      case' y0 => exfalso; omega
      case' x0 =>
        refine Draw.take0 rfl (X.move rfl) rfl rfl rfl (by decide +kernel) ?_
        refine Draw.take0 rfl (X.move rfl) rfl rfl rfl (by decide +kernel) ?_
        refine Draw.take0 rfl (X.indexAddr rfl rfl (by omega) rfl rfl rfl rfl) rfl rfl rfl (by decide +kernel) ?_
        refine Draw.take rfl (X.load1 rfl rfl rfl rfl Pick.head (by assumption)) rfl rfl rfl (by decide +kernel) ?_
        refine Draw.take0 rfl (X.move rfl) rfl rfl rfl (by decide +kernel) ?_
        refine Draw.take0 rfl (X.move rfl) rfl rfl rfl (by decide +kernel) ?_
        refine Draw.take0 rfl (X.indexAddr rfl rfl (by omega) rfl rfl rfl rfl) rfl rfl rfl (by decide +kernel) ?_
        refine Draw.take rfl (X.load1 rfl rfl rfl rfl Pick.head (by assumption)) rfl rfl rfl (by decide +kernel) ?_
      refine Draw.last rfl rfl (by decide +kernel) (Y.call rfl rfl (by first | assumption | decide +kernel) rfl (less_any _ d1[i]! d1[a]!) rfl ?_)
      rintro v w3 ⟨rfl, rfl⟩
      by_cases hlt : d1[i]! < d1[a]!
      · rw [if_pos (by simp [ltU]; omega)] at he2
        refine Draw2.take rfl (X.pick_t rfl rfl) rfl rfl rfl (by decide +kernel) ?_
        (refine Draw2.done (by decide +kernel) (hK _ _ ?_); clear hK K)
        refine Run.cond_dec rfl (fun h43 => ?x1) (fun h43 => ?y1)
        case' y1 => exfalso; omega
        case' x1 =>
          refine Run.skip ?_
          refine Run.block ?_
          (refine Run.region ?_; intro K hK)
          refine Ops.pure H (X.move rfl) rfl rfl rfl ?_
          refine Ops.pure H (X.succ rfl rfl (by omega)) rfl rfl rfl ?_
          refine Ops.pure H (X.assign rfl) rfl rfl rfl ?_
          (refine Ops.nil (hK _ _ ?_); clear hK K)
          refine Run.inBlock ?_
        exact (IH (i + 1) _ (by omega) ⟨by omega, by omega, h2.keepH H.fr (H.pick .head), he2, hf2.trans H.fr (by simp) (by simp)⟩).weak (by repeat (first | exact trivial | refine ⟨rfl, ?_⟩))
      · rw [if_neg (by simp [ltU]; omega)] at he2
        refine Draw2.take rfl (X.pick_t rfl rfl) rfl rfl rfl (by decide +kernel) ?_
        (refine Draw2.done (by decide +kernel) (hK _ _ ?_); clear hK K)
        refine Run.cond_dec rfl (fun h43 => ?x2) (fun h43 => ?y2)
        case' y2 =>
          refine Run.exit rfl ?_
        case' x2 => exfalso; omega
        subst he2
        exact go () _ _ ⟨by omega, by omega, h2.keepH H.fr (H.pick .head), hf2.trans H.fr (by simp) (by simp)⟩ (by repeat (first | exact trivial | refine ⟨rfl, ?_⟩))
    · rw [if_neg (by simp; omega)] at he2
      have H := (Holds.start w2 [blk]).add true h2.hb (by simp) (by simp)
      refine Run.seq ?_
      refine Run.seq ?_
      (refine Run.draw H [12] [0, 1, 2, 3, 4, 5, 6, 7, 8, 9, 10, 11, 12, 13] ?_; clear H; intro K hK w H)
      refine Draw.take0 rfl (X.move rfl) rfl rfl rfl (by decide +kernel) ?_
      refine Draw.take0 rfl (X.move rfl) rfl rfl rfl (by decide +kernel) ?_
      refine Draw.take0 rfl (X.cmp rfl rfl rfl) rfl rfl rfl (by decide +kernel) ?_
      refine Draw.take0 rfl (X.move rfl) rfl rfl rfl (by decide +kernel) ?_
      refine Draw.split_dec rfl rfl rfl (fun h34 => ?x3) (fun h34 => ?y3)
      case' y3 =>
        refine Draw.pass rfl rfl rfl rfl (by decide +kernel) ?_
        refine Draw.pass rfl rfl rfl rfl (by decide +kernel) ?_
        refine Draw.pass rfl rfl rfl rfl (by decide +kernel) ?_
        refine Draw.pass rfl rfl rfl rfl (by decide +kernel) ?_
        refine Draw.pass rfl rfl rfl rfl (by decide +kernel) ?_
        refine Draw.pass rfl rfl rfl rfl (by decide +kernel) ?_
        refine Draw.pass rfl rfl rfl rfl (by decide +kernel) ?_
        refine Draw.pass rfl rfl rfl rfl (by decide +kernel) ?_
        refine Draw.passL rfl rfl rfl rfl (by decide +kernel) ?_
        refine Draw2.take rfl (X.pick_f rfl rfl) rfl rfl rfl (by decide +kernel) ?_
        (refine Draw2.done (by decide +kernel) (hK _ _ ?_); clear hK K)
        refine Run.cond_false rfl ?_
        refine Run.exit rfl ?_
      case' x3 => exfalso; omega
      subst he2
      exact go () _ _ ⟨by omega, by omega, h2.keepH H.fr (H.pick .head), hf2.trans H.fr (by simp) (by simp)⟩ (by repeat (first | exact trivial | refine ⟨rfl, ?_⟩))
  rintro _ w2 ⟨hi1, hi2, h2, hf2⟩
  obtain ⟨J, hJ⟩ : ∃ J, J = Sort.scanDown (fun x => !ltU x d1[a]!) d1 I (b - 1) := ⟨_, rfl⟩
  refine Run.seq ?_
  refine Run.meet (fun (_ : Unit) => [(0, .slice (some ⟨blk, off, none⟩) n cap), (1, .int .i64 (a : Nat)), (10, .int .i64 (I : Nat)), (11, .int .i64 (J : Nat))]) (fun _ w' => J < n ∧ I ≤ J + 1 ∧ Ar w' blk off d1 cs1 ∧ Fr z w' [blk]) ?_ ?_
  rotate_left
  · intro kk go
    refine Run.block ?_
    refine Run.rounds (fun (j : Nat) => [(0, .slice (some ⟨blk, off, none⟩) n cap), (1, .int .i64 (a : Nat)), (10, .int .i64 (I : Nat)), (11, .int .i64 (j : Nat))])
      (fun j w' => j < n ∧ I ≤ j + 1 ∧ Ar w' blk off d1 cs1 ∧ Sort.scanDown (fun x => !ltU x d1[a]!) d1 I j = J ∧ Fr z w' [blk]) (fun j => j) (b - 1) (by repeat (first | exact trivial | refine ⟨rfl, ?_⟩)) ⟨by omega, by omega, h2, hJ.symm, hf2⟩ ?_
    rintro j w2 ⟨hj1, hj2, h2, he2, hf2⟩ IH
    by_cases hij : I ≤ j
    · obtain ⟨q, rfl⟩ : ∃ q, j = q + 1 := ⟨j - 1, by omega⟩
      rw [Sort.scanDown] at he2
      have c1 := h2.hc (q + 1) (by omega)
      have c2 := h2.hc a (by omega)
      have H := (Holds.start w2 [blk]).add true h2.hb (by simp) (by simp)
      refine Run.seq ?_
      refine Run.seq ?_
      (refine Run.draw H [12] [0, 1, 2, 3, 4, 5, 6, 7, 8, 9, 10, 11, 12, 13, 14] ?_; clear H; intro K hK w H)
      refine Draw.take0 rfl (X.move rfl) rfl rfl rfl (by decide +kernel) ?_
      refine Draw.take0 rfl (X.move rfl) rfl rfl rfl (by decide +kernel) ?_
      refine Draw.take0 rfl (X.cmp rfl rfl rfl) rfl rfl rfl (by decide +kernel) ?_
      refine Draw.take0 rfl (X.move rfl) rfl rfl rfl (by decide +kernel) ?_
      refine Draw.split_dec rfl rfl rfl (fun h50 => ?x4) (fun h50 => ?y4)
      case' y4 => exfalso; omega
      case' x4 =>
        refine Draw.take0 rfl (X.move rfl) rfl rfl rfl (by decide +kernel) ?_
        refine Draw.take0 rfl (X.move rfl) rfl rfl rfl (by decide +kernel) ?_
        refine Draw.take0 rfl (X.indexAddr rfl rfl (by omega) rfl rfl rfl rfl) rfl rfl rfl (by decide +kernel) ?_
        refine Draw.take rfl (X.load1 rfl rfl rfl rfl Pick.head (by assumption)) rfl rfl rfl (by decide +kernel) ?_
        refine Draw.take0 rfl (X.move rfl) rfl rfl rfl (by decide +kernel) ?_
        refine Draw.take0 rfl (X.move rfl) rfl rfl rfl (by decide +kernel) ?_
        refine Draw.take0 rfl (X.indexAddr rfl rfl (by omega) rfl rfl rfl rfl) rfl rfl rfl (by decide +kernel) ?_
        refine Draw.take rfl (X.load1 rfl rfl rfl rfl Pick.head (by assumption)) rfl rfl rfl (by decide +kernel) ?_
      refine Draw.last rfl rfl (by decide +kernel) (Y.call rfl rfl (by first | assumption | decide +kernel) rfl (less_any _ d1[q + 1]! d1[a]!) rfl ?_)
      rintro v w3 ⟨rfl, rfl⟩
      by_cases hlt : d1[q + 1]! < d1[a]!
      · rw [if_neg (by simp [ltU]; omega)] at he2
        refine Draw2.take rfl (X.not rfl) rfl rfl rfl (by decide +kernel) ?_
        refine Draw2.take rfl (X.pick_t rfl rfl) rfl rfl rfl (by decide +kernel) ?_
        (refine Draw2.done (by decide +kernel) (hK _ _ ?_); clear hK K)
        refine Run.cond_ndec rfl (fun h60 => ?x5) (fun h60 => ?y5)
        case' y5 =>
          refine Run.exit rfl ?_
        case' x5 => exfalso; omega
        subst he2
        exact go () _ _ ⟨by omega, by omega, h2.keepH H.fr (H.pick .head), hf2.trans H.fr (by simp) (by simp)⟩ (by repeat (first | exact trivial | refine ⟨rfl, ?_⟩))
      · rw [if_pos (by simp [ltU]; omega)] at he2
        refine Draw2.take rfl (X.not rfl) rfl rfl rfl (by decide +kernel) ?_
        refine Draw2.take rfl (X.pick_t rfl rfl) rfl rfl rfl (by decide +kernel) ?_
        (refine Draw2.done (by decide +kernel) (hK _ _ ?_); clear hK K)
        refine Run.cond_ndec rfl (fun h60 => ?x6) (fun h60 => ?y6)
        case' y6 => exfalso; omega
        case' x6 =>
          refine Run.skip ?_
          refine Run.block ?_
          (refine Run.region ?_; intro K hK)
          refine Ops.pure H (X.move rfl) rfl rfl rfl ?_
          refine Ops.pure H (X.pred rfl rfl (by omega)) rfl rfl rfl ?_
          refine Ops.pure H (X.assign rfl) rfl rfl rfl ?_
          (refine Ops.nil (hK _ _ ?_); clear hK K)
          refine Run.inBlock ?_
        exact (IH q _ (by omega) ⟨by omega, by omega, h2.keepH H.fr (H.pick .head), he2, hf2.trans H.fr (by simp) (by simp)⟩).weak (by repeat (first | exact trivial | refine ⟨rfl, ?_⟩))
    · have he3 : j = J := by
        rw [← he2]
        cases j with
        | zero => rfl
        | succ q => rw [Sort.scanDown, if_neg (by simp; omega)]
      have H := (Holds.start w2 [blk]).add true h2.hb (by simp) (by simp)
      refine Run.seq ?_
      refine Run.seq ?_
      (refine Run.draw H [12] [0, 1, 2, 3, 4, 5, 6, 7, 8, 9, 10, 11, 12, 13, 14] ?_; clear H; intro K hK w H)
      refine Draw.take0 rfl (X.move rfl) rfl rfl rfl (by decide +kernel) ?_
      refine Draw.take0 rfl (X.move rfl) rfl rfl rfl (by decide +kernel) ?_
      refine Draw.take0 rfl (X.cmp rfl rfl rfl) rfl rfl rfl (by decide +kernel) ?_
      refine Draw.take0 rfl (X.move rfl) rfl rfl rfl (by decide +kernel) ?_
      refine Draw.split_dec rfl rfl rfl (fun h50 => ?x7) (fun h50 => ?y7)
      case' y7 =>
        refine Draw.pass rfl rfl rfl rfl (by decide +kernel) ?_
        refine Draw.pass rfl rfl rfl rfl (by decide +kernel) ?_
        refine Draw.pass rfl rfl rfl rfl (by decide +kernel) ?_
        refine Draw.pass rfl rfl rfl rfl (by decide +kernel) ?_
        refine Draw.pass rfl rfl rfl rfl (by decide +kernel) ?_
        refine Draw.pass rfl rfl rfl rfl (by decide +kernel) ?_
        refine Draw.pass rfl rfl rfl rfl (by decide +kernel) ?_
        refine Draw.pass rfl rfl rfl rfl (by decide +kernel) ?_
        refine Draw.passL rfl rfl rfl rfl (by decide +kernel) ?_
        refine Draw2.passE rfl rfl rfl rfl (by decide +kernel) ?_
        refine Draw2.take rfl (X.pick_f rfl rfl) rfl rfl rfl (by decide +kernel) ?_
        (refine Draw2.done (by decide +kernel) (hK _ _ ?_); clear hK K)
        refine Run.cond_false rfl ?_
        refine Run.exit rfl ?_
      case' x7 => exfalso; omega
      subst he3
      exact go () _ _ ⟨by omega, by omega, h2.keepH H.fr (H.pick .head), hf2.trans H.fr (by simp) (by simp)⟩ (by repeat (first | exact trivial | refine ⟨rfl, ?_⟩))
  rintro _ w3 ⟨hj1, hj2, h3, hf3⟩
  have hpt : Sort.partition ltU d a b pv = if I > J then (J, true, Sort.swp d1 J a) else ((Sort.partLoop ltU a (I + 1) (J - 1) (Sort.swp d1 I J)).1, false, Sort.swp (Sort.partLoop ltU a (I + 1) (J - 1) (Sort.swp d1 I J)).2 (Sort.partLoop ltU a (I + 1) (J - 1) (Sort.swp d1 I J)).1 a) := by
    unfold Sort.partition
    dsimp only
    rw [← hd1, ← hI, ← hJ]
  rw [hpt]
  have cI := h3.hc J (by omega)
  have cA := h3.hc a (by omega)
  have hl3 := h3.hl
  by_cases hIJ : I > J
  · rw [if_pos hIJ]
    have H := (Holds.start w3 [blk]).add true h3.hb (by simp) (by simp)
    refine Run.seq ?_
    (refine Run.seq (Run.region ?_); intro K hK)
    refine Ops.pure H (X.move rfl) rfl rfl rfl ?_
    refine Ops.pure H (X.move rfl) rfl rfl rfl ?_
    refine Ops.pure H (X.cmp rfl rfl rfl) rfl rfl rfl ?_
    (refine Ops.nil (hK _ _ ?_); clear hK K)
    refine Run.cond_dec rfl (fun h65 => ?x8) (fun h65 => ?y8)
    case' y8 => exfalso; omega
    case' x8 =>
      refine Run.seq ?_
      (refine Run.draw H [13, 15] [0, 1, 2, 3, 4, 5, 6, 7, 8, 9, 10, 11, 12, 13, 14, 15] ?_; clear H; intro K hK w H)
      refine Draw.take0 rfl (X.move rfl) rfl rfl rfl (by decide +kernel) ?_
      refine Draw.take0 rfl (X.move rfl) rfl rfl rfl (by decide +kernel) ?_
      refine Draw.take0 rfl (X.move rfl) rfl rfl rfl (by decide +kernel) ?_
      refine Draw.take0 rfl (X.move rfl) rfl rfl rfl (by decide +kernel) ?_
      refine Draw.take0 rfl (X.move rfl) rfl rfl rfl (by decide +kernel) ?_
      refine Draw.take0 rfl (X.move rfl) rfl rfl rfl (by decide +kernel) ?_
      refine Draw.take0 rfl (X.indexAddr rfl rfl (by omega) rfl rfl rfl rfl) rfl rfl rfl (by decide +kernel) ?_
      refine Draw.take rfl (X.load1 rfl rfl rfl rfl Pick.head (by assumption)) rfl rfl rfl (by decide +kernel) ?_
      refine Draw.take0 rfl (X.move rfl) rfl rfl rfl (by decide +kernel) ?_
      refine Draw.take0 rfl (X.move rfl) rfl rfl rfl (by decide +kernel) ?_
      refine Draw.take0 rfl (X.indexAddr rfl rfl (by omega) rfl rfl rfl rfl) rfl rfl rfl (by decide +kernel) ?_
      refine Draw.take rfl (X.load1 rfl rfl rfl rfl Pick.head (by assumption)) rfl rfl rfl (by decide +kernel) ?_
      refine Draw.take0 rfl (X.indexAddr rfl rfl (by omega) rfl rfl rfl rfl) rfl rfl rfl (by decide +kernel) ?_
      (refine Draw.last rfl rfl (by decide +kernel) (Y.storeI rfl rfl rfl rfl rfl rfl H Upd.head (by first | omega | (simp only [List.length_set]; omega)) ?_); intro w H0; clear H; have H := H0; clear H0)
      refine Draw2.take rfl (X.indexAddr rfl rfl (by omega) rfl rfl rfl rfl) rfl rfl rfl (by decide +kernel) ?_
      (refine Draw2.eff rfl rfl (by decide +kernel) (Y.storeI rfl rfl rfl rfl rfl rfl H Upd.head (by first | omega | (simp only [List.length_set]; omega)) ?_); intro w H0; clear H; have H := H0; clear H0)
      (refine Draw2.done (by decide +kernel) (hK _ _ ?_); clear hK K)
      (refine Run.seq (Run.region ?_); intro K hK)
      refine Ops.pure H (X.move rfl) rfl rfl rfl ?_
      refine Ops.pure H (X.assign rfl) rfl rfl rfl ?_
      refine Ops.pure H (X.assign rfl) rfl rfl rfl ?_
      (refine Ops.nil (hK _ _ ?_); clear hK K)
    (first | refine Fn.ret1 HF rfl rfl ?_ | refine Fn.ret2 HF rfl rfl rfl ?_ | refine Fn.ret3 HF rfl rfl rfl rfl ?_ | refine Fn.ret0 HF rfl ?_ | refine Fn.fin0 HF rfl ?_ | refine Fn.retG (E := env) HF rfl H (by first | exact RVs.cellN rfl rfl rfl (by repeat (first | exact .head | apply Pick.tail)) (by first | assumption | exact Cs.take rfl) RVs.nil | exact RVs.cellN rfl rfl rfl (by repeat (first | exact .head | apply Pick.tail)) (by first | assumption | exact Cs.take rfl) (RVs.tmp rfl RVs.nil) | exact RVs.cellN rfl rfl rfl (by repeat (first | exact .head | apply Pick.tail)) (by first | assumption | exact Cs.take rfl) (RVs.tmp rfl (RVs.tmp rfl RVs.nil))) rfl ?_)
    exact ⟨rfl, _, h3.swp1 (i := J) (j := a) (by omega) (by omega) (H.pick .head), hf3.trans H.fr (by simp) (by simp)⟩
  · rw [if_neg hIJ]
    have hlt := scans_lt _ _ (fun x => rfl) _ _ _ _ _ (by omega) (by omega) hI hJ hIJ
    have cJ := h3.hc I (by omega)
    have H := (Holds.start w3 [blk]).add true h3.hb (by simp) (by simp)
    refine Run.seq ?_
    (refine Run.seq (Run.region ?_); intro K hK)
    refine Ops.pure H (X.move rfl) rfl rfl rfl ?_
    refine Ops.pure H (X.move rfl) rfl rfl rfl ?_
    refine Ops.pure H (X.cmp rfl rfl rfl) rfl rfl rfl ?_
    (refine Ops.nil (hK _ _ ?_); clear hK K)
    refine Run.cond_dec rfl (fun h65 => ?x9) (fun h65 => ?y9)
    case' y9 =>
      refine Run.skip ?_
      refine Run.seq ?_
      (refine Run.draw H [13, 15] [0, 1, 2, 3, 4, 5, 6, 7, 8, 9, 10, 11, 12, 13, 14, 15] ?_; clear H; intro K hK w H)
      refine Draw.take0 rfl (X.move rfl) rfl rfl rfl (by decide +kernel) ?_
      refine Draw.take0 rfl (X.move rfl) rfl rfl rfl (by decide +kernel) ?_
      refine Draw.take0 rfl (X.move rfl) rfl rfl rfl (by decide +kernel) ?_
      refine Draw.take0 rfl (X.move rfl) rfl rfl rfl (by decide +kernel) ?_
      refine Draw.take0 rfl (X.move rfl) rfl rfl rfl (by decide +kernel) ?_
      refine Draw.take0 rfl (X.move rfl) rfl rfl rfl (by decide +kernel) ?_
      refine Draw.take0 rfl (X.indexAddr rfl rfl (by omega) rfl rfl rfl rfl) rfl rfl rfl (by decide +kernel) ?_
      refine Draw.take rfl (X.load1 rfl rfl rfl rfl Pick.head (by assumption)) rfl rfl rfl (by decide +kernel) ?_
      refine Draw.take0 rfl (X.move rfl) rfl rfl rfl (by decide +kernel) ?_
      refine Draw.take0 rfl (X.move rfl) rfl rfl rfl (by decide +kernel) ?_
      refine Draw.take0 rfl (X.indexAddr rfl rfl (by omega) rfl rfl rfl rfl) rfl rfl rfl (by decide +kernel) ?_
      refine Draw.take rfl (X.load1 rfl rfl rfl rfl Pick.head (by assumption)) rfl rfl rfl (by decide +kernel) ?_
      refine Draw.take0 rfl (X.indexAddr rfl rfl (by omega) rfl rfl rfl rfl) rfl rfl rfl (by decide +kernel) ?_
      (refine Draw.last rfl rfl (by decide +kernel) (Y.storeI rfl rfl rfl rfl rfl rfl H Upd.head (by first | omega | (simp only [List.length_set]; omega)) ?_); intro w H0; clear H; have H := H0; clear H0)
      refine Draw2.take rfl (X.indexAddr rfl rfl (by omega) rfl rfl rfl rfl) rfl rfl rfl (by decide +kernel) ?_
      (refine Draw2.eff rfl rfl (by decide +kernel) (Y.storeI rfl rfl rfl rfl rfl rfl H Upd.head (by first | omega | (simp only [List.length_set]; omega)) ?_); intro w H0; clear H; have H := H0; clear H0)
      (refine Draw2.done (by decide +kernel) (hK _ _ ?_); clear hK K)
      (refine Run.seq (Run.region ?_); intro K hK)
      refine Ops.pure H (X.move rfl) rfl rfl rfl ?_
      refine Ops.pure H (X.succ rfl rfl (by omega)) rfl rfl rfl ?_
      refine Ops.pure H (X.assign rfl) rfl rfl rfl ?_
      (refine Ops.nil (hK _ _ (Run.seq (Run.region ?_))); clear hK K; intro K hK)
      refine Ops.pure H (X.move rfl) rfl rfl rfl ?_
      refine Ops.pure H (X.subN (j := 1) rfl rfl rfl rfl (by omega) (IntWalk.i64_in _ (by omega))) rfl rfl rfl ?_
      refine Ops.pure H (X.assign rfl) rfl rfl rfl ?_
      (refine Ops.nil (hK _ _ ?_); clear hK K)
    case' x9 => exfalso; omega
    have h4 := h3.swp1 (i := I) (j := J) (by omega) (by omega) (H.pick .head)
    have hf4 := hf3.trans (U := [blk]) H.fr (by simp) (by simp)
    clear H
    obtain ⟨R, hR⟩ : ∃ R, R = Sort.partLoop ltU a (I + 1) (J - 1) (Sort.swp d1 I J) := ⟨_, rfl⟩
    rw [← hR]
    refine Run.seq ?_
    refine Run.block ?_
    refine Run.rounds (fun (x : Nat × Nat) => [(0, .slice (some ⟨blk, off, none⟩) n cap), (1, .int .i64 (a : Nat)), (10, .int .i64 (x.1 : Nat)), (11, .int .i64 (x.2 : Nat))])
      (fun x w' => 1 ≤ x.1 ∧ x.1 ≤ x.2 + 1 ∧ x.2 < n ∧ ∃ (d' : Array Int) (cs' : List Value), d'.size = n ∧ Ar w' blk off d' cs' ∧ Sort.partLoop ltU a x.1 x.2 d' = R ∧ Fr z w' [blk]) (fun x => x.2 + 1 - x.1) (I + 1, J - 1) (by repeat (first | exact trivial | refine ⟨rfl, ?_⟩)) ⟨by dsimp only; omega, by dsimp only; omega, by dsimp only; omega, _, _, by rw [swp_size]; exact hs1, h4, hR.symm, hf4⟩ ?_
    rintro ⟨i0, j0⟩ w4 ⟨hi1', hi2', hj0, d2, cs2, hs2, h2, he, hf2⟩ IH0
    dsimp only at hi1' hi2' hj0 he IH0 ⊢
    rw [Sort.partLoop_eq] at he
    obtain ⟨I2, hI2⟩ : ∃ I2, I2 = Sort.scanUp (fun x => ltU x d2[a]!) d2 j0 i0 := ⟨_, rfl⟩
    obtain ⟨J2, hJ2⟩ : ∃ J2, J2 = Sort.scanDown (fun x => !ltU x d2[a]!) d2 I2 j0 := ⟨_, rfl⟩
    rw [← hI2, ← hJ2] at he
    have hge := Sort.scanUp_ge (fun x => ltU x d2[a]!) d2 j0 i0
    have hle := Sort.scanDown_le (fun x => !ltU x d2[a]!) d2 I2 j0
    rw [← hI2] at hge
    rw [← hJ2] at hle
    refine Run.block ?_
    refine Run.seq ?_
    refine Run.meet (fun (_ : Unit) => [(0, .slice (some ⟨blk, off, none⟩) n cap), (1, .int .i64 (a : Nat)), (10, .int .i64 (I2 : Nat)), (11, .int .i64 (j0 : Nat))]) (fun _ w' => 1 ≤ I2 ∧ I2 ≤ j0 + 1 ∧ Ar w' blk off d2 cs2 ∧ Fr z w' [blk]) ?_ ?_
    rotate_left
    · intro kk go
      refine Run.block ?_
      refine Run.rounds (fun (i : Nat) => [(0, .slice (some ⟨blk, off, none⟩) n cap), (1, .int .i64 (a : Nat)), (10, .int .i64 (i : Nat)), (11, .int .i64 (j0 : Nat))])
        (fun i w' => 1 ≤ i ∧ i ≤ j0 + 1 ∧ Ar w' blk off d2 cs2 ∧ Sort.scanUp (fun x => ltU x d2[a]!) d2 j0 i = I2 ∧ Fr z w' [blk]) (fun i => j0 + 1 - i) i0 (by repeat (first | exact trivial | refine ⟨rfl, ?_⟩)) ⟨by omega, by omega, h2, hI2.symm, hf2⟩ ?_
      rintro i w2 ⟨hi1, hi2, h2, he2, hf2⟩ IH
      rw [Sort.scanUp] at he2
      by_cases hij : i ≤ j0
      · have c1 := h2.hc i (by omega)
        have c2 := h2.hc a (by omega)
        have H := (Holds.start w2 [blk]).add true h2.hb (by simp) (by simp)
        refine Run.seq ?_
        refine Run.seq ?_
        (refine Run.draw H [12] [0, 1, 2, 3, 4, 5, 6, 7, 8, 9, 10, 11, 12, 13] ?_; clear H; intro K hK w H)
        refine Draw.take0 rfl (X.move rfl) rfl rfl rfl (by decide +kernel) ?_
        refine Draw.take0 rfl (X.move rfl) rfl rfl rfl (by decide +kernel) ?_
        refine Draw.take0 rfl (X.cmp rfl rfl rfl) rfl rfl rfl (by decide +kernel) ?_
        refine Draw.take0 rfl (X.move rfl) rfl rfl rfl (by decide +kernel) ?_
        refine Draw.split_dec rfl rfl rfl (fun h103 => ?x10) (fun h103 => ?y10)
        case' y10 => exfalso; omega
        case' x10 =>
          refine Draw.take0 rfl (X.move rfl) rfl rfl rfl (by decide +kernel) ?_
          refine Draw.take0 rfl (X.move rfl) rfl rfl rfl (by decide +kernel) ?_
          refine Draw.take0 rfl (X.indexAddr rfl rfl (by omega) rfl rfl rfl rfl) rfl rfl rfl (by decide +kernel) ?_
          refine Draw.take rfl (X.load1 rfl rfl rfl rfl Pick.head (by assumption)) rfl rfl rfl (by decide +kernel) ?_
          refine Draw.take0 rfl (X.move rfl) rfl rfl rfl (by decide +kernel) ?_
          refine Draw.take0 rfl (X.move rfl) rfl rfl rfl (by decide +kernel) ?_
          refine Draw.take0 rfl (X.indexAddr rfl rfl (by omega) rfl rfl rfl rfl) rfl rfl rfl (by decide +kernel) ?_
          refine Draw.take rfl (X.load1 rfl rfl rfl rfl Pick.head (by assumption)) rfl rfl rfl (by decide +kernel) ?_
        refine Draw.last rfl rfl (by decide +kernel) (Y.call rfl rfl (by first | assumption | decide +kernel) rfl (less_any _ d2[i]! d2[a]!) rfl ?_)
        rintro v w3 ⟨rfl, rfl⟩
        by_cases hlt : d2[i]! < d2[a]!
        · rw [if_pos (by simp [ltU]; omega)] at he2
          refine Draw2.take rfl (X.pick_t rfl rfl) rfl rfl rfl (by decide +kernel) ?_
          (refine Draw2.done (by decide +kernel) (hK _ _ ?_); clear hK K)
          refine Run.cond_dec rfl (fun h112 => ?x11) (fun h112 => ?y11)
          case' y11 => exfalso; omega
          case' x11 =>
            refine Run.skip ?_
            refine Run.block ?_
            (refine Run.region ?_; intro K hK)
            refine Ops.pure H (X.move rfl) rfl rfl rfl ?_
            refine Ops.pure H (X.succ rfl rfl (by omega)) rfl rfl rfl ?_
            refine Ops.pure H (X.assign rfl) rfl rfl rfl ?_
            (refine Ops.nil (hK _ _ ?_); clear hK K)
            refine Run.inBlock ?_
          exact (IH (i + 1) _ (by omega) ⟨by omega, by omega, h2.keepH H.fr (H.pick .head), he2, hf2.trans H.fr (by simp) (by simp)⟩).weak (by repeat (first | exact trivial | refine ⟨rfl, ?_⟩))
        · rw [if_neg (by simp [ltU]; omega)] at he2
          refine Draw2.take rfl (X.pick_t rfl rfl) rfl rfl rfl (by decide +kernel) ?_
          (refine Draw2.done (by decide +kernel) (hK _ _ ?_); clear hK K)
          refine Run.cond_dec rfl (fun h112 => ?x12) (fun h112 => ?y12)
          case' y12 =>
            refine Run.exit rfl ?_
          case' x12 => exfalso; omega
          subst he2
          exact go () _ _ ⟨by omega, by omega, h2.keepH H.fr (H.pick .head), hf2.trans H.fr (by simp) (by simp)⟩ (by repeat (first | exact trivial | refine ⟨rfl, ?_⟩))
      · rw [if_neg (by simp; omega)] at he2
        have H := (Holds.start w2 [blk]).add true h2.hb (by simp) (by simp)
        refine Run.seq ?_
        refine Run.seq ?_
        (refine Run.draw H [12] [0, 1, 2, 3, 4, 5, 6, 7, 8, 9, 10, 11, 12, 13] ?_; clear H; intro K hK w H)
        refine Draw.take0 rfl (X.move rfl) rfl rfl rfl (by decide +kernel) ?_
        refine Draw.take0 rfl (X.move rfl) rfl rfl rfl (by decide +kernel) ?_
        refine Draw.take0 rfl (X.cmp rfl rfl rfl) rfl rfl rfl (by decide +kernel) ?_
        refine Draw.take0 rfl (X.move rfl) rfl rfl rfl (by decide +kernel) ?_
        refine Draw.split_dec rfl rfl rfl (fun h103 => ?x13) (fun h103 => ?y13)
        case' y13 =>
          refine Draw.pass rfl rfl rfl rfl (by decide +kernel) ?_
          refine Draw.pass rfl rfl rfl rfl (by decide +kernel) ?_
          refine Draw.pass rfl rfl rfl rfl (by decide +kernel) ?_
          refine Draw.pass rfl rfl rfl rfl (by decide +kernel) ?_
          refine Draw.pass rfl rfl rfl rfl (by decide +kernel) ?_
          refine Draw.pass rfl rfl rfl rfl (by decide +kernel) ?_
          refine Draw.pass rfl rfl rfl rfl (by decide +kernel) ?_
          refine Draw.pass rfl rfl rfl rfl (by decide +kernel) ?_
          refine Draw.passL rfl rfl rfl rfl (by decide +kernel) ?_
          refine Draw2.take rfl (X.pick_f rfl rfl) rfl rfl rfl (by decide +kernel) ?_
          (refine Draw2.done (by decide +kernel) (hK _ _ ?_); clear hK K)
          refine Run.cond_false rfl ?_
          refine Run.exit rfl ?_
        case' x13 => exfalso; omega
        subst he2
        exact go () _ _ ⟨by omega, by omega, h2.keepH H.fr (H.pick .head), hf2.trans H.fr (by simp) (by simp)⟩ (by repeat (first | exact trivial | refine ⟨rfl, ?_⟩))
    rintro _ w5 ⟨hi1, hi2, h2, hf2⟩
    refine Run.seq ?_
    refine Run.meet (fun (_ : Unit) => [(0, .slice (some ⟨blk, off, none⟩) n cap), (1, .int .i64 (a : Nat)), (10, .int .i64 (I2 : Nat)), (11, .int .i64 (J2 : Nat))]) (fun _ w' => J2 < n ∧ I2 ≤ J2 + 1 ∧ Ar w' blk off d2 cs2 ∧ Fr z w' [blk]) ?_ ?_
    rotate_left
    · intro kk go
      refine Run.block ?_
      refine Run.rounds (fun (j : Nat) => [(0, .slice (some ⟨blk, off, none⟩) n cap), (1, .int .i64 (a : Nat)), (10, .int .i64 (I2 : Nat)), (11, .int .i64 (j : Nat))])
        (fun j w' => j < n ∧ I2 ≤ j + 1 ∧ Ar w' blk off d2 cs2 ∧ Sort.scanDown (fun x => !ltU x d2[a]!) d2 I2 j = J2 ∧ Fr z w' [blk]) (fun j => j) j0 (by repeat (first | exact trivial | refine ⟨rfl, ?_⟩)) ⟨by omega, by omega, h2, hJ2.symm, hf2⟩ ?_
      rintro j w2 ⟨hj1, hj2, h2, he2, hf2⟩ IH
      by_cases hij : I2 ≤ j
      · obtain ⟨q, rfl⟩ : ∃ q, j = q + 1 := ⟨j - 1, by omega⟩
        rw [Sort.scanDown] at he2
        have c1 := h2.hc (q + 1) (by omega)
        have c2 := h2.hc a (by omega)
        have H := (Holds.start w2 [blk]).add true h2.hb (by simp) (by simp)
        refine Run.seq ?_
        refine Run.seq ?_
        (refine Run.draw H [12] [0, 1, 2, 3, 4, 5, 6, 7, 8, 9, 10, 11, 12, 13, 14] ?_; clear H; intro K hK w H)
        refine Draw.take0 rfl (X.move rfl) rfl rfl rfl (by decide +kernel) ?_
        refine Draw.take0 rfl (X.move rfl) rfl rfl rfl (by decide +kernel) ?_
        refine Draw.take0 rfl (X.cmp rfl rfl rfl) rfl rfl rfl (by decide +kernel) ?_
        refine Draw.take0 rfl (X.move rfl) rfl rfl rfl (by decide +kernel) ?_
        refine Draw.split_dec rfl rfl rfl (fun h119 => ?x14) (fun h119 => ?y14)
        case' y14 => exfalso; omega
        case' x14 =>
          refine Draw.take0 rfl (X.move rfl) rfl rfl rfl (by decide +kernel) ?_
          refine Draw.take0 rfl (X.move rfl) rfl rfl rfl (by decide +kernel) ?_
          refine Draw.take0 rfl (X.indexAddr rfl rfl (by omega) rfl rfl rfl rfl) rfl rfl rfl (by decide +kernel) ?_
          refine Draw.take rfl (X.load1 rfl rfl rfl rfl Pick.head (by assumption)) rfl rfl rfl (by decide +kernel) ?_
          refine Draw.take0 rfl (X.move rfl) rfl rfl rfl (by decide +kernel) ?_
          refine Draw.take0 rfl (X.move rfl) rfl rfl rfl (by decide +kernel) ?_
          refine Draw.take0 rfl (X.indexAddr rfl rfl (by omega) rfl rfl rfl rfl) rfl rfl rfl (by decide +kernel) ?_
          refine Draw.take rfl (X.load1 rfl rfl rfl rfl Pick.head (by assumption)) rfl rfl rfl (by decide +kernel) ?_
        refine Draw.last rfl rfl (by decide +kernel) (Y.call rfl rfl (by first | assumption | decide +kernel) rfl (less_any _ d2[q + 1]! d2[a]!) rfl ?_)
        rintro v w3 ⟨rfl, rfl⟩
        by_cases hlt : d2[q + 1]! < d2[a]!
        · rw [if_neg (by simp [ltU]; omega)] at he2
          refine Draw2.take rfl (X.not rfl) rfl rfl rfl (by decide +kernel) ?_
          refine Draw2.take rfl (X.pick_t rfl rfl) rfl rfl rfl (by decide +kernel) ?_
          (refine Draw2.done (by decide +kernel) (hK _ _ ?_); clear hK K)
          refine Run.cond_ndec rfl (fun h129 => ?x15) (fun h129 => ?y15)
          case' y15 =>
            refine Run.exit rfl ?_
          case' x15 => exfalso; omega
          subst he2
          exact go () _ _ ⟨by omega, by omega, h2.keepH H.fr (H.pick .head), hf2.trans H.fr (by simp) (by simp)⟩ (by repeat (first | exact trivial | refine ⟨rfl, ?_⟩))
        · rw [if_pos (by simp [ltU]; omega)] at he2
          refine Draw2.take rfl (X.not rfl) rfl rfl rfl (by decide +kernel) ?_
          refine Draw2.take rfl (X.pick_t rfl rfl) rfl rfl rfl (by decide +kernel) ?_
          (refine Draw2.done (by decide +kernel) (hK _ _ ?_); clear hK K)
          refine Run.cond_ndec rfl (fun h129 => ?x16) (fun h129 => ?y16)
          case' y16 => exfalso; omega
          case' x16 =>
            refine Run.skip ?_
            refine Run.block ?_
            (refine Run.region ?_; intro K hK)
            refine Ops.pure H (X.move rfl) rfl rfl rfl ?_
            refine Ops.pure H (X.pred rfl rfl (by omega)) rfl rfl rfl ?_
            refine Ops.pure H (X.assign rfl) rfl rfl rfl ?_
            (refine Ops.nil (hK _ _ ?_); clear hK K)
            refine Run.inBlock ?_
          exact (IH q _ (by omega) ⟨by omega, by omega, h2.keepH H.fr (H.pick .head), he2, hf2.trans H.fr (by simp) (by simp)⟩).weak (by repeat (first | exact trivial | refine ⟨rfl, ?_⟩))
      · have he3 : j = J2 := by
          rw [← he2]
          cases j with
          | zero => rfl
          | succ q => rw [Sort.scanDown, if_neg (by simp; omega)]
        have H := (Holds.start w2 [blk]).add true h2.hb (by simp) (by simp)
        refine Run.seq ?_
        refine Run.seq ?_
        (refine Run.draw H [12] [0, 1, 2, 3, 4, 5, 6, 7, 8, 9, 10, 11, 12, 13, 14] ?_; clear H; intro K hK w H)
        refine Draw.take0 rfl (X.move rfl) rfl rfl rfl (by decide +kernel) ?_
        refine Draw.take0 rfl (X.move rfl) rfl rfl rfl (by decide +kernel) ?_
        refine Draw.take0 rfl (X.cmp rfl rfl rfl) rfl rfl rfl (by decide +kernel) ?_
        refine Draw.take0 rfl (X.move rfl) rfl rfl rfl (by decide +kernel) ?_
        refine Draw.split_dec rfl rfl rfl (fun h119 => ?x17) (fun h119 => ?y17)
        case' y17 =>
          refine Draw.pass rfl rfl rfl rfl (by decide +kernel) ?_
          refine Draw.pass rfl rfl rfl rfl (by decide +kernel) ?_
          refine Draw.pass rfl rfl rfl rfl (by decide +kernel) ?_
          refine Draw.pass rfl rfl rfl rfl (by decide +kernel) ?_
          refine Draw.pass rfl rfl rfl rfl (by decide +kernel) ?_
          refine Draw.pass rfl rfl rfl rfl (by decide +kernel) ?_
          refine Draw.pass rfl rfl rfl rfl (by decide +kernel) ?_
          refine Draw.pass rfl rfl rfl rfl (by decide +kernel) ?_
          refine Draw.passL rfl rfl rfl rfl (by decide +kernel) ?_
          refine Draw2.passE rfl rfl rfl rfl (by decide +kernel) ?_
          refine Draw2.take rfl (X.pick_f rfl rfl) rfl rfl rfl (by decide +kernel) ?_
          (refine Draw2.done (by decide +kernel) (hK _ _ ?_); clear hK K)
          refine Run.cond_false rfl ?_
          refine Run.exit rfl ?_
        case' x17 => exfalso; omega
        subst he3
        exact go () _ _ ⟨by omega, by omega, h2.keepH H.fr (H.pick .head), hf2.trans H.fr (by simp) (by simp)⟩ (by repeat (first | exact trivial | refine ⟨rfl, ?_⟩))
    rintro _ w6 ⟨hj1, hj2, h3, hf3⟩
    have cI := h3.hc J2 (by omega)
    have cA := h3.hc a (by omega)
    have hl3 := h3.hl
    by_cases hIJ : I2 > J2
    · rw [if_pos hIJ] at he
      have H := (Holds.start w6 [blk]).add true h3.hb (by simp) (by simp)
      refine Run.seq ?_
      (refine Run.seq (Run.region ?_); intro K hK)
      refine Ops.pure H (X.move rfl) rfl rfl rfl ?_
      refine Ops.pure H (X.move rfl) rfl rfl rfl ?_
      refine Ops.pure H (X.cmp rfl rfl rfl) rfl rfl rfl ?_
      (refine Ops.nil (hK _ _ ?_); clear hK K)
      refine Run.cond_dec rfl (fun h134 => ?x18) (fun h134 => ?y18)
      case' y18 => exfalso; omega
      case' x18 =>
        refine Run.exit rfl ?_
        refine Run.seq ?_
        (refine Run.draw H [13, 15] [0, 1, 2, 3, 4, 5, 6, 7, 8, 9, 10, 11, 12, 13, 14, 15] ?_; clear H; intro K hK w H)
        refine Draw.take0 rfl (X.move rfl) rfl rfl rfl (by decide +kernel) ?_
        refine Draw.take0 rfl (X.move rfl) rfl rfl rfl (by decide +kernel) ?_
        refine Draw.take0 rfl (X.move rfl) rfl rfl rfl (by decide +kernel) ?_
        refine Draw.take0 rfl (X.move rfl) rfl rfl rfl (by decide +kernel) ?_
        refine Draw.take0 rfl (X.move rfl) rfl rfl rfl (by decide +kernel) ?_
        refine Draw.take0 rfl (X.move rfl) rfl rfl rfl (by decide +kernel) ?_
        refine Draw.take0 rfl (X.indexAddr rfl rfl (by omega) rfl rfl rfl rfl) rfl rfl rfl (by decide +kernel) ?_
        refine Draw.take rfl (X.load1 rfl rfl rfl rfl Pick.head (by assumption)) rfl rfl rfl (by decide +kernel) ?_
        refine Draw.take0 rfl (X.move rfl) rfl rfl rfl (by decide +kernel) ?_
        refine Draw.take0 rfl (X.move rfl) rfl rfl rfl (by decide +kernel) ?_
        refine Draw.take0 rfl (X.indexAddr rfl rfl (by omega) rfl rfl rfl rfl) rfl rfl rfl (by decide +kernel) ?_
        refine Draw.take rfl (X.load1 rfl rfl rfl rfl Pick.head (by assumption)) rfl rfl rfl (by decide +kernel) ?_
        refine Draw.take0 rfl (X.indexAddr rfl rfl (by omega) rfl rfl rfl rfl) rfl rfl rfl (by decide +kernel) ?_
        (refine Draw.last rfl rfl (by decide +kernel) (Y.storeI rfl rfl rfl rfl rfl rfl H Upd.head (by first | omega | (simp only [List.length_set]; omega)) ?_); intro w H0; clear H; have H := H0; clear H0)
        refine Draw2.take rfl (X.indexAddr rfl rfl (by omega) rfl rfl rfl rfl) rfl rfl rfl (by decide +kernel) ?_
        (refine Draw2.eff rfl rfl (by decide +kernel) (Y.storeI rfl rfl rfl rfl rfl rfl H Upd.head (by first | omega | (simp only [List.length_set]; omega)) ?_); intro w H0; clear H; have H := H0; clear H0)
        (refine Draw2.done (by decide +kernel) (hK _ _ ?_); clear hK K)
        (refine Run.seq (Run.region ?_); intro K hK)
        refine Ops.pure H (X.move rfl) rfl rfl rfl ?_
        refine Ops.pure H (X.assign rfl) rfl rfl rfl ?_
        refine Ops.pure H (X.assign rfl) rfl rfl rfl ?_
        (refine Ops.nil (hK _ _ ?_); clear hK K)
      (first | refine Fn.ret1 HF rfl rfl ?_ | refine Fn.ret2 HF rfl rfl rfl ?_ | refine Fn.ret3 HF rfl rfl rfl rfl ?_ | refine Fn.ret0 HF rfl ?_ | refine Fn.fin0 HF rfl ?_ | refine Fn.retG (E := env) HF rfl H (by first | exact RVs.cellN rfl rfl rfl (by repeat (first | exact .head | apply Pick.tail)) (by first | assumption | exact Cs.take rfl) RVs.nil | exact RVs.cellN rfl rfl rfl (by repeat (first | exact .head | apply Pick.tail)) (by first | assumption | exact Cs.take rfl) (RVs.tmp rfl RVs.nil) | exact RVs.cellN rfl rfl rfl (by repeat (first | exact .head | apply Pick.tail)) (by first | assumption | exact Cs.take rfl) (RVs.tmp rfl (RVs.tmp rfl RVs.nil))) rfl ?_)
      rw [← he]
      exact ⟨rfl, _, h3.swp1 (i := J2) (j := a) (by omega) (by omega) (H.pick .head), hf3.trans H.fr (by simp) (by simp)⟩
    · rw [if_neg hIJ] at he
      have hlt := scans_lt _ _ (fun x => rfl) _ _ _ _ _ (by omega) (by omega) hI2 hJ2 hIJ
      have cJ := h3.hc I2 (by omega)
      have H := (Holds.start w6 [blk]).add true h3.hb (by simp) (by simp)
      refine Run.seq ?_
      (refine Run.seq (Run.region ?_); intro K hK)
      refine Ops.pure H (X.move rfl) rfl rfl rfl ?_
      refine Ops.pure H (X.move rfl) rfl rfl rfl ?_
      refine Ops.pure H (X.cmp rfl rfl rfl) rfl rfl rfl ?_
      (refine Ops.nil (hK _ _ ?_); clear hK K)
      refine Run.cond_dec rfl (fun h134 => ?x19) (fun h134 => ?y19)
      case' y19 =>
        refine Run.skip ?_
        refine Run.seq ?_
        (refine Run.draw H [13, 15] [0, 1, 2, 3, 4, 5, 6, 7, 8, 9, 10, 11, 12, 13, 14, 15] ?_; clear H; intro K hK w H)
        refine Draw.take0 rfl (X.move rfl) rfl rfl rfl (by decide +kernel) ?_
        refine Draw.take0 rfl (X.move rfl) rfl rfl rfl (by decide +kernel) ?_
        refine Draw.take0 rfl (X.move rfl) rfl rfl rfl (by decide +kernel) ?_
        refine Draw.take0 rfl (X.move rfl) rfl rfl rfl (by decide +kernel) ?_
        refine Draw.take0 rfl (X.move rfl) rfl rfl rfl (by decide +kernel) ?_
        refine Draw.take0 rfl (X.move rfl) rfl rfl rfl (by decide +kernel) ?_
        refine Draw.take0 rfl (X.indexAddr rfl rfl (by omega) rfl rfl rfl rfl) rfl rfl rfl (by decide +kernel) ?_
        refine Draw.take rfl (X.load1 rfl rfl rfl rfl Pick.head (by assumption)) rfl rfl rfl (by decide +kernel) ?_
        refine Draw.take0 rfl (X.move rfl) rfl rfl rfl (by decide +kernel) ?_
        refine Draw.take0 rfl (X.move rfl) rfl rfl rfl (by decide +kernel) ?_
        refine Draw.take0 rfl (X.indexAddr rfl rfl (by omega) rfl rfl rfl rfl) rfl rfl rfl (by decide +kernel) ?_
        refine Draw.take rfl (X.load1 rfl rfl rfl rfl Pick.head (by assumption)) rfl rfl rfl (by decide +kernel) ?_
        refine Draw.take0 rfl (X.indexAddr rfl rfl (by omega) rfl rfl rfl rfl) rfl rfl rfl (by decide +kernel) ?_
        (refine Draw.last rfl rfl (by decide +kernel) (Y.storeI rfl rfl rfl rfl rfl rfl H Upd.head (by first | omega | (simp only [List.length_set]; omega)) ?_); intro w H0; clear H; have H := H0; clear H0)
        refine Draw2.take rfl (X.indexAddr rfl rfl (by omega) rfl rfl rfl rfl) rfl rfl rfl (by decide +kernel) ?_
        (refine Draw2.eff rfl rfl (by decide +kernel) (Y.storeI rfl rfl rfl rfl rfl rfl H Upd.head (by first | omega | (simp only [List.length_set]; omega)) ?_); intro w H0; clear H; have H := H0; clear H0)
        (refine Draw2.done (by decide +kernel) (hK _ _ ?_); clear hK K)
        (refine Run.seq (Run.region ?_); intro K hK)
        refine Ops.pure H (X.move rfl) rfl rfl rfl ?_
        refine Ops.pure H (X.succ rfl rfl (by omega)) rfl rfl rfl ?_
        refine Ops.pure H (X.assign rfl) rfl rfl rfl ?_
        (refine Ops.nil (hK _ _ ?_); clear hK K)
        (refine Run.region ?_; intro K hK)
        refine Ops.pure H (X.move rfl) rfl rfl rfl ?_
        refine Ops.pure H (X.subN (j := 1) rfl rfl rfl rfl (by omega) (IntWalk.i64_in _ (by omega))) rfl rfl rfl ?_
        refine Ops.pure H (X.assign rfl) rfl rfl rfl ?_
        (refine Ops.nil (hK _ _ ?_); clear hK K)
        refine Run.inBlock ?_
      case' x19 => exfalso; omega
      exact (IH0 (I2 + 1, J2 - 1) _ (by dsimp only; omega) ⟨by dsimp only; omega, by dsimp only; omega, by dsimp only; omega, _, _, by rw [swp_size]; exact hs2, h3.swp1 (i := I2) (j := J2) (by omega) (by omega) (H.pick .head), he, hf3.trans H.fr (by simp) (by simp)⟩).weak (by repeat (first | exact trivial | refine ⟨rfl, ?_⟩))
theorem parteq_any (z : World) (blk off cap : Nat) (d : Array Int) (cs : List Value) (a b pv : Nat) {n : Nat} (hn : d.size = n) (h : Ar z blk off d cs) (ha : a ≤ pv) (hpb : pv < b) (hb : b ≤ n) (hm : n ≤ 2305843009213693951) :
    Fn env.P 72 [.slice (some ⟨blk, off, none⟩) n cap, .int .i64 (a : Nat), .int .i64 (b : Nat), .int .i64 (pv : Nat)] z fun v w' => v = .int .i64 ((Sort.partitionEqual ltU d a b pv).1 : Nat) ∧ ∃ cs', Ar w' blk off (Sort.partitionEqual ltU d a b pv).2 cs' ∧ Fr z w' [blk] := by
  have c1 := h.hc a (by omega)
  have c2 := h.hc pv (by omega)
  have hl := h.hl
  have H := (Holds.start z [blk]).add true h.hb (by simp) (by simp)
  have HF := Try.func72; refine Fn.enter Try.func72 Try.ntmps72 rfl rfl rfl ?_
  (refine Run.seq (Run.region ?_); intro K hK)
  refine Ops.pure H (X.assign rfl) rfl rfl rfl ?_
  (refine Ops.nil (hK _ _ ?_); clear hK K)
  refine Run.seq ?_
  (refine Run.draw H [13, 15] [0, 1, 2, 3, 4, 5, 6, 7, 8, 9, 10, 11, 12, 13, 14, 15] ?_; clear H; intro K hK w H)
  refine Draw.take0 rfl (X.move rfl) rfl rfl rfl (by decide +kernel) ?_
  refine Draw.take0 rfl (X.move rfl) rfl rfl rfl (by decide +kernel) ?_
  refine Draw.take0 rfl (X.move rfl) rfl rfl rfl (by decide +kernel) ?_
  refine Draw.take0 rfl (X.move rfl) rfl rfl rfl (by decide +kernel) ?_
  refine Draw.take0 rfl (X.move rfl) rfl rfl rfl (by decide +kernel) ?_
  refine Draw.take0 rfl (X.move rfl) rfl rfl rfl (by decide +kernel) ?_
  refine Draw.take0 rfl (X.indexAddr rfl rfl (by omega) rfl rfl rfl rfl) rfl rfl rfl (by decide +kernel) ?_
  refine Draw.take rfl (X.load1 rfl rfl rfl rfl Pick.head (by assumption)) rfl rfl rfl (by decide +kernel) ?_
  refine Draw.take0 rfl (X.move rfl) rfl rfl rfl (by decide +kernel) ?_
  refine Draw.take0 rfl (X.move rfl) rfl rfl rfl (by decide +kernel) ?_
  refine Draw.take0 rfl (X.indexAddr rfl rfl (by omega) rfl rfl rfl rfl) rfl rfl rfl (by decide +kernel) ?_
  refine Draw.take rfl (X.load1 rfl rfl rfl rfl Pick.head (by assumption)) rfl rfl rfl (by decide +kernel) ?_
  refine Draw.take0 rfl (X.indexAddr rfl rfl (by omega) rfl rfl rfl rfl) rfl rfl rfl (by decide +kernel) ?_
  (refine Draw.last rfl rfl (by decide +kernel) (Y.storeI rfl rfl rfl rfl rfl rfl H Upd.head (by first | omega | (simp only [List.length_set]; omega)) ?_); intro w H0; clear H; have H := H0; clear H0)
  refine Draw2.take rfl (X.indexAddr rfl rfl (by omega) rfl rfl rfl rfl) rfl rfl rfl (by decide +kernel) ?_
  (refine Draw2.eff rfl rfl (by decide +kernel) (Y.storeI rfl rfl rfl rfl rfl rfl H Upd.head (by first | omega | (simp only [List.length_set]; omega)) ?_); intro w H0; clear H; have H := H0; clear H0)
  (refine Draw2.done (by decide +kernel) (hK _ _ ?_); clear hK K)
  (refine Run.seq (Run.region ?_); intro K hK)
  refine Ops.pure H (X.move rfl) rfl rfl rfl ?_
  refine Ops.pure H (X.succ rfl rfl (by omega)) rfl rfl rfl ?_
  refine Ops.pure H (X.move rfl) rfl rfl rfl ?_
  refine Ops.pure H (X.subN (j := 1) rfl rfl rfl rfl (by omega) (IntWalk.i64_in _ (by omega))) rfl rfl rfl ?_
  refine Ops.pure H (X.assign rfl) rfl rfl rfl ?_
  refine Ops.pure H (X.assign rfl) rfl rfl rfl ?_
  (refine Ops.nil (hK _ _ ?_); clear hK K)
  have h4 := h.swp1 (i := a) (j := pv) (by omega) (by omega) (H.pick .head)
  have hf4 := H.fr
  clear H
  obtain ⟨R, hR⟩ : ∃ R, R = Sort.partitionEqual ltU d a b pv := ⟨_, rfl⟩
  rw [← hR]
  refine Run.seq ?_
  refine Run.block ?_
  refine Run.rounds (fun (x : Nat × Nat) => [(0, .slice (some ⟨blk, off, none⟩) n cap), (1, .int .i64 (a : Nat)), (9, .int .i64 (x.1 : Nat)), (10, .int .i64 (x.2 : Nat))])
    (fun x w' => 1 ≤ x.1 ∧ x.1 ≤ x.2 + 1 ∧ x.2 < n ∧ ∃ (d' : Array Int) (cs' : List Value), d'.size = n ∧ Ar w' blk off d' cs' ∧ Sort.partEqLoop ltU a x.1 x.2 d' = R ∧ Fr z w' [blk]) (fun x => x.2 + 1 - x.1) (a + 1, b - 1) (by repeat (first | exact trivial | refine ⟨rfl, ?_⟩)) ⟨by dsimp only; omega, by dsimp only; omega, by dsimp only; omega, _, _, by rw [swp_size]; exact hn, h4, hR.symm, hf4⟩ ?_
  rintro ⟨i0, j0⟩ w4 ⟨hi1', hi2', hj0, d2, cs2, hs2, h2, he, hf2⟩ IH0
  dsimp only at hi1' hi2' hj0 he IH0 ⊢
  rw [Sort.partEqLoop_eq] at he
  obtain ⟨I2, hI2⟩ : ∃ I2, I2 = Sort.scanUp (fun x => !ltU d2[a]! x) d2 j0 i0 := ⟨_, rfl⟩
  obtain ⟨J2, hJ2⟩ : ∃ J2, J2 = Sort.scanDown (fun x => ltU d2[a]! x) d2 I2 j0 := ⟨_, rfl⟩
  rw [← hI2, ← hJ2] at he
  have hge := Sort.scanUp_ge (fun x => !ltU d2[a]! x) d2 j0 i0
  have hle := Sort.scanDown_le (fun x => ltU d2[a]! x) d2 I2 j0
  rw [← hI2] at hge
  rw [← hJ2] at hle
  refine Run.block ?_
  refine Run.seq ?_
  refine Run.meet (fun (_ : Unit) => [(0, .slice (some ⟨blk, off, none⟩) n cap), (1, .int .i64 (a : Nat)), (9, .int .i64 (I2 : Nat)), (10, .int .i64 (j0 : Nat))]) (fun _ w' => 1 ≤ I2 ∧ I2 ≤ j0 + 1 ∧ Ar w' blk off d2 cs2 ∧ Fr z w' [blk]) ?_ ?_
  rotate_left
  · intro kk go
    refine Run.block ?_
    refine Run.rounds (fun (i : Nat) => [(0, .slice (some ⟨blk, off, none⟩) n cap), (1, .int .i64 (a : Nat)), (9, .int .i64 (i : Nat)), (10, .int .i64 (j0 : Nat))])
      (fun i w' => 1 ≤ i ∧ i ≤ j0 + 1 ∧ Ar w' blk off d2 cs2 ∧ Sort.scanUp (fun x => !ltU d2[a]! x) d2 j0 i = I2 ∧ Fr z w' [blk]) (fun i => j0 + 1 - i) i0 (by repeat (first | exact trivial | refine ⟨rfl, ?_⟩)) ⟨by omega, by omega, h2, hI2.symm, hf2⟩ ?_
    rintro i w2 ⟨hi1, hi2, h2, he2, hf2⟩ IH
    rw [Sort.scanUp] at he2
    by_cases hij : i ≤ j0
    · have c1 := h2.hc i (by omega)
      have c2 := h2.hc a (by omega)
      have H := (Holds.start w2 [blk]).add true h2.hb (by simp) (by simp)
      refine Run.seq ?_
      refine Run.seq ?_
      (refine Run.draw H [12] [0, 1, 2, 3, 4, 5, 6, 7, 8, 9, 10, 11, 12, 13, 14] ?_; clear H; intro K hK w H)
      refine Draw.take0 rfl (X.move rfl) rfl rfl rfl (by decide +kernel) ?_
      refine Draw.take0 rfl (X.move rfl) rfl rfl rfl (by decide +kernel) ?_
      refine Draw.take0 rfl (X.cmp rfl rfl rfl) rfl rfl rfl (by decide +kernel) ?_
      refine Draw.take0 rfl (X.move rfl) rfl rfl rfl (by decide +kernel) ?_
      refine Draw.split_dec rfl rfl rfl (fun h33 => ?x20) (fun h33 => ?y20)
      case' y20 => exfalso; omega
      case' x20 =>
        refine Draw.take0 rfl (X.move rfl) rfl rfl rfl (by decide +kernel) ?_
        refine Draw.take0 rfl (X.move rfl) rfl rfl rfl (by decide +kernel) ?_
        refine Draw.take0 rfl (X.indexAddr rfl rfl (by omega) rfl rfl rfl rfl) rfl rfl rfl (by decide +kernel) ?_
        refine Draw.take rfl (X.load1 rfl rfl rfl rfl Pick.head (by assumption)) rfl rfl rfl (by decide +kernel) ?_
        refine Draw.take0 rfl (X.move rfl) rfl rfl rfl (by decide +kernel) ?_
        refine Draw.take0 rfl (X.move rfl) rfl rfl rfl (by decide +kernel) ?_
        refine Draw.take0 rfl (X.indexAddr rfl rfl (by omega) rfl rfl rfl rfl) rfl rfl rfl (by decide +kernel) ?_
        refine Draw.take rfl (X.load1 rfl rfl rfl rfl Pick.head (by assumption)) rfl rfl rfl (by decide +kernel) ?_
      refine Draw.last rfl rfl (by decide +kernel) (Y.call rfl rfl (by first | assumption | decide +kernel) rfl (less_any _ d2[a]! d2[i]!) rfl ?_)
      rintro v w3 ⟨rfl, rfl⟩
      by_cases hlt : d2[a]! < d2[i]!
      · rw [if_neg (by simp [ltU]; omega)] at he2
        refine Draw2.take rfl (X.not rfl) rfl rfl rfl (by decide +kernel) ?_
        refine Draw2.take rfl (X.pick_t rfl rfl) rfl rfl rfl (by decide +kernel) ?_
        (refine Draw2.done (by decide +kernel) (hK _ _ ?_); clear hK K)
        refine Run.cond_ndec rfl (fun h43 => ?x21) (fun h43 => ?y21)
        case' y21 =>
          refine Run.exit rfl ?_
        case' x21 => exfalso; omega
        subst he2
        exact go () _ _ ⟨by omega, by omega, h2.keepH H.fr (H.pick .head), hf2.trans H.fr (by simp) (by simp)⟩ (by repeat (first | exact trivial | refine ⟨rfl, ?_⟩))
      · rw [if_pos (by simp [ltU]; omega)] at he2
        refine Draw2.take rfl (X.not rfl) rfl rfl rfl (by decide +kernel) ?_
        refine Draw2.take rfl (X.pick_t rfl rfl) rfl rfl rfl (by decide +kernel) ?_
        (refine Draw2.done (by decide +kernel) (hK _ _ ?_); clear hK K)
        refine Run.cond_ndec rfl (fun h43 => ?x22) (fun h43 => ?y22)
        case' y22 => exfalso; omega
        case' x22 =>
          refine Run.skip ?_
          refine Run.block ?_
          (refine Run.region ?_; intro K hK)
          refine Ops.pure H (X.move rfl) rfl rfl rfl ?_
          refine Ops.pure H (X.succ rfl rfl (by omega)) rfl rfl rfl ?_
          refine Ops.pure H (X.assign rfl) rfl rfl rfl ?_
          (refine Ops.nil (hK _ _ ?_); clear hK K)
          refine Run.inBlock ?_
        exact (IH (i + 1) _ (by omega) ⟨by omega, by omega, h2.keepH H.fr (H.pick .head), he2, hf2.trans H.fr (by simp) (by simp)⟩).weak (by repeat (first | exact trivial | refine ⟨rfl, ?_⟩))
    · rw [if_neg (by simp; omega)] at he2
      have H := (Holds.start w2 [blk]).add true h2.hb (by simp) (by simp)
      refine Run.seq ?_
      refine Run.seq ?_
      (refine Run.draw H [12] [0, 1, 2, 3, 4, 5, 6, 7, 8, 9, 10, 11, 12, 13, 14] ?_; clear H; intro K hK w H)
      refine Draw.take0 rfl (X.move rfl) rfl rfl rfl (by decide +kernel) ?_
      refine Draw.take0 rfl (X.move rfl) rfl rfl rfl (by decide +kernel) ?_
      refine Draw.take0 rfl (X.cmp rfl rfl rfl) rfl rfl rfl (by decide +kernel) ?_
      refine Draw.take0 rfl (X.move rfl) rfl rfl rfl (by decide +kernel) ?_
      refine Draw.split_dec rfl rfl rfl (fun h33 => ?x23) (fun h33 => ?y23)
      case' y23 =>
        refine Draw.pass rfl rfl rfl rfl (by decide +kernel) ?_
        refine Draw.pass rfl rfl rfl rfl (by decide +kernel) ?_
        refine Draw.pass rfl rfl rfl rfl (by decide +kernel) ?_
        refine Draw.pass rfl rfl rfl rfl (by decide +kernel) ?_
        refine Draw.pass rfl rfl rfl rfl (by decide +kernel) ?_
        refine Draw.pass rfl rfl rfl rfl (by decide +kernel) ?_
        refine Draw.pass rfl rfl rfl rfl (by decide +kernel) ?_
        refine Draw.pass rfl rfl rfl rfl (by decide +kernel) ?_
        refine Draw.passL rfl rfl rfl rfl (by decide +kernel) ?_
        refine Draw2.passE rfl rfl rfl rfl (by decide +kernel) ?_
        refine Draw2.take rfl (X.pick_f rfl rfl) rfl rfl rfl (by decide +kernel) ?_
        (refine Draw2.done (by decide +kernel) (hK _ _ ?_); clear hK K)
        refine Run.cond_false rfl ?_
        refine Run.exit rfl ?_
      case' x23 => exfalso; omega
      subst he2
      exact go () _ _ ⟨by omega, by omega, h2.keepH H.fr (H.pick .head), hf2.trans H.fr (by simp) (by simp)⟩ (by repeat (first | exact trivial | refine ⟨rfl, ?_⟩))
  rintro _ w5 ⟨hi1, hi2, h2, hf2⟩
  refine Run.seq ?_
  refine Run.meet (fun (_ : Unit) => [(0, .slice (some ⟨blk, off, none⟩) n cap), (1, .int .i64 (a : Nat)), (9, .int .i64 (I2 : Nat)), (10, .int .i64 (J2 : Nat))]) (fun _ w' => J2 < n ∧ I2 ≤ J2 + 1 ∧ Ar w' blk off d2 cs2 ∧ Fr z w' [blk]) ?_ ?_
  rotate_left
  · intro kk go
    refine Run.block ?_
    refine Run.rounds (fun (j : Nat) => [(0, .slice (some ⟨blk, off, none⟩) n cap), (1, .int .i64 (a : Nat)), (9, .int .i64 (I2 : Nat)), (10, .int .i64 (j : Nat))])
      (fun j w' => j < n ∧ I2 ≤ j + 1 ∧ Ar w' blk off d2 cs2 ∧ Sort.scanDown (fun x => ltU d2[a]! x) d2 I2 j = J2 ∧ Fr z w' [blk]) (fun j => j) j0 (by repeat (first | exact trivial | refine ⟨rfl, ?_⟩)) ⟨by omega, by omega, h2, hJ2.symm, hf2⟩ ?_
    rintro j w2 ⟨hj1, hj2, h2, he2, hf2⟩ IH
    by_cases hij : I2 ≤ j
    · obtain ⟨q, rfl⟩ : ∃ q, j = q + 1 := ⟨j - 1, by omega⟩
      rw [Sort.scanDown] at he2
      have c1 := h2.hc (q + 1) (by omega)
      have c2 := h2.hc a (by omega)
      have H := (Holds.start w2 [blk]).add true h2.hb (by simp) (by simp)
      refine Run.seq ?_
      refine Run.seq ?_
      (refine Run.draw H [12] [0, 1, 2, 3, 4, 5, 6, 7, 8, 9, 10, 11, 12, 13] ?_; clear H; intro K hK w H)
      refine Draw.take0 rfl (X.move rfl) rfl rfl rfl (by decide +kernel) ?_
      refine Draw.take0 rfl (X.move rfl) rfl rfl rfl (by decide +kernel) ?_
      refine Draw.take0 rfl (X.cmp rfl rfl rfl) rfl rfl rfl (by decide +kernel) ?_
      refine Draw.take0 rfl (X.move rfl) rfl rfl rfl (by decide +kernel) ?_
      refine Draw.split_dec rfl rfl rfl (fun h50 => ?x24) (fun h50 => ?y24)
      case' y24 => exfalso; omega
      case' x24 =>
        refine Draw.take0 rfl (X.move rfl) rfl rfl rfl (by decide +kernel) ?_
        refine Draw.take0 rfl (X.move rfl) rfl rfl rfl (by decide +kernel) ?_
        refine Draw.take0 rfl (X.indexAddr rfl rfl (by omega) rfl rfl rfl rfl) rfl rfl rfl (by decide +kernel) ?_
        refine Draw.take rfl (X.load1 rfl rfl rfl rfl Pick.head (by assumption)) rfl rfl rfl (by decide +kernel) ?_
        refine Draw.take0 rfl (X.move rfl) rfl rfl rfl (by decide +kernel) ?_
        refine Draw.take0 rfl (X.move rfl) rfl rfl rfl (by decide +kernel) ?_
        refine Draw.take0 rfl (X.indexAddr rfl rfl (by omega) rfl rfl rfl rfl) rfl rfl rfl (by decide +kernel) ?_
        refine Draw.take rfl (X.load1 rfl rfl rfl rfl Pick.head (by assumption)) rfl rfl rfl (by decide +kernel) ?_
      refine Draw.last rfl rfl (by decide +kernel) (Y.call rfl rfl (by first | assumption | decide +kernel) rfl (less_any _ d2[a]! d2[q + 1]!) rfl ?_)
      rintro v w3 ⟨rfl, rfl⟩
      by_cases hlt : d2[a]! < d2[q + 1]!
      · rw [if_pos (by simp [ltU]; omega)] at he2
        refine Draw2.take rfl (X.pick_t rfl rfl) rfl rfl rfl (by decide +kernel) ?_
        (refine Draw2.done (by decide +kernel) (hK _ _ ?_); clear hK K)
        refine Run.cond_dec rfl (fun h59 => ?x25) (fun h59 => ?y25)
        case' y25 => exfalso; omega
        case' x25 =>
          refine Run.skip ?_
          refine Run.block ?_
          (refine Run.region ?_; intro K hK)
          refine Ops.pure H (X.move rfl) rfl rfl rfl ?_
          refine Ops.pure H (X.pred rfl rfl (by omega)) rfl rfl rfl ?_
          refine Ops.pure H (X.assign rfl) rfl rfl rfl ?_
          (refine Ops.nil (hK _ _ ?_); clear hK K)
          refine Run.inBlock ?_
        exact (IH q _ (by omega) ⟨by omega, by omega, h2.keepH H.fr (H.pick .head), he2, hf2.trans H.fr (by simp) (by simp)⟩).weak (by repeat (first | exact trivial | refine ⟨rfl, ?_⟩))
      · rw [if_neg (by simp [ltU]; omega)] at he2
        refine Draw2.take rfl (X.pick_t rfl rfl) rfl rfl rfl (by decide +kernel) ?_
        (refine Draw2.done (by decide +kernel) (hK _ _ ?_); clear hK K)
        refine Run.cond_dec rfl (fun h59 => ?x26) (fun h59 => ?y26)
        case' y26 =>
          refine Run.exit rfl ?_
        case' x26 => exfalso; omega
        subst he2
        exact go () _ _ ⟨by omega, by omega, h2.keepH H.fr (H.pick .head), hf2.trans H.fr (by simp) (by simp)⟩ (by repeat (first | exact trivial | refine ⟨rfl, ?_⟩))
    · have he3 : j = J2 := by
        rw [← he2]
        cases j with
        | zero => rfl
        | succ q => rw [Sort.scanDown, if_neg (by simp; omega)]
      have H := (Holds.start w2 [blk]).add true h2.hb (by simp) (by simp)
      refine Run.seq ?_
      refine Run.seq ?_
      (refine Run.draw H [12] [0, 1, 2, 3, 4, 5, 6, 7, 8, 9, 10, 11, 12, 13] ?_; clear H; intro K hK w H)
      refine Draw.take0 rfl (X.move rfl) rfl rfl rfl (by decide +kernel) ?_
      refine Draw.take0 rfl (X.move rfl) rfl rfl rfl (by decide +kernel) ?_
      refine Draw.take0 rfl (X.cmp rfl rfl rfl) rfl rfl rfl (by decide +kernel) ?_
      refine Draw.take0 rfl (X.move rfl) rfl rfl rfl (by decide +kernel) ?_
      refine Draw.split_dec rfl rfl rfl (fun h50 => ?x27) (fun h50 => ?y27)
      case' y27 =>
        refine Draw.pass rfl rfl rfl rfl (by decide +kernel) ?_
        refine Draw.pass rfl rfl rfl rfl (by decide +kernel) ?_
        refine Draw.pass rfl rfl rfl rfl (by decide +kernel) ?_
        refine Draw.pass rfl rfl rfl rfl (by decide +kernel) ?_
        refine Draw.pass rfl rfl rfl rfl (by decide +kernel) ?_
        refine Draw.pass rfl rfl rfl rfl (by decide +kernel) ?_
        refine Draw.pass rfl rfl rfl rfl (by decide +kernel) ?_
        refine Draw.pass rfl rfl rfl rfl (by decide +kernel) ?_
        refine Draw.passL rfl rfl rfl rfl (by decide +kernel) ?_
        refine Draw2.take rfl (X.pick_f rfl rfl) rfl rfl rfl (by decide +kernel) ?_
        (refine Draw2.done (by decide +kernel) (hK _ _ ?_); clear hK K)
        refine Run.cond_false rfl ?_
        refine Run.exit rfl ?_
      case' x27 => exfalso; omega
      subst he3
      exact go () _ _ ⟨by omega, by omega, h2.keepH H.fr (H.pick .head), hf2.trans H.fr (by simp) (by simp)⟩ (by repeat (first | exact trivial | refine ⟨rfl, ?_⟩))
  rintro _ w6 ⟨hj1, hj2, h3, hf3⟩
  by_cases hIJ : I2 > J2
  · rw [if_pos hIJ] at he
    have H := (Holds.start w6 [blk]).add true h3.hb (by simp) (by simp)
    refine Run.seq ?_
    (refine Run.seq (Run.region ?_); intro K hK)
    refine Ops.pure H (X.move rfl) rfl rfl rfl ?_
    refine Ops.pure H (X.move rfl) rfl rfl rfl ?_
    refine Ops.pure H (X.cmp rfl rfl rfl) rfl rfl rfl ?_
    (refine Ops.nil (hK _ _ ?_); clear hK K)
    refine Run.cond_dec rfl (fun h64 => ?x28) (fun h64 => ?y28)
    case' y28 => exfalso; omega
    case' x28 =>
      refine Run.exit rfl ?_
      (refine Run.seq (Run.region ?_); intro K hK)
      refine Ops.pure H (X.move rfl) rfl rfl rfl ?_
      refine Ops.pure H (X.assign rfl) rfl rfl rfl ?_
      (refine Ops.nil (hK _ _ ?_); clear hK K)
    (first | refine Fn.ret1 HF rfl rfl ?_ | refine Fn.ret2 HF rfl rfl rfl ?_ | refine Fn.ret3 HF rfl rfl rfl rfl ?_ | refine Fn.ret0 HF rfl ?_ | refine Fn.fin0 HF rfl ?_ | refine Fn.retG (E := env) HF rfl H (by first | exact RVs.cellN rfl rfl rfl (by repeat (first | exact .head | apply Pick.tail)) (by first | assumption | exact Cs.take rfl) RVs.nil | exact RVs.cellN rfl rfl rfl (by repeat (first | exact .head | apply Pick.tail)) (by first | assumption | exact Cs.take rfl) (RVs.tmp rfl RVs.nil) | exact RVs.cellN rfl rfl rfl (by repeat (first | exact .head | apply Pick.tail)) (by first | assumption | exact Cs.take rfl) (RVs.tmp rfl (RVs.tmp rfl RVs.nil))) rfl ?_)
    rw [← he]
    exact ⟨rfl, _, h3.keepH H.fr (H.pick .head), hf3.trans H.fr (by simp) (by simp)⟩
  · rw [if_neg hIJ] at he
    have hlt := scans_lt _ _ (fun x => (Bool.not_not _).symm) _ _ _ _ _ (by omega) (by omega) hI2 hJ2 hIJ
    have cI := h3.hc J2 (by omega)
    have cJ := h3.hc I2 (by omega)
    have hl3 := h3.hl
    have H := (Holds.start w6 [blk]).add true h3.hb (by simp) (by simp)
    refine Run.seq ?_
    (refine Run.seq (Run.region ?_); intro K hK)
    refine Ops.pure H (X.move rfl) rfl rfl rfl ?_
    refine Ops.pure H (X.move rfl) rfl rfl rfl ?_
    refine Ops.pure H (X.cmp rfl rfl rfl) rfl rfl rfl ?_
    (refine Ops.nil (hK _ _ ?_); clear hK K)
    refine Run.cond_dec rfl (fun h64 => ?x29) (fun h64 => ?y29)
    case' y29 =>
      refine Run.skip ?_
      refine Run.seq ?_
      (refine Run.draw H [13, 15] [0, 1, 2, 3, 4, 5, 6, 7, 8, 9, 10, 11, 12, 13, 14, 15] ?_; clear H; intro K hK w H)
      refine Draw.take0 rfl (X.move rfl) rfl rfl rfl (by decide +kernel) ?_
      refine Draw.take0 rfl (X.move rfl) rfl rfl rfl (by decide +kernel) ?_
      refine Draw.take0 rfl (X.move rfl) rfl rfl rfl (by decide +kernel) ?_
      refine Draw.take0 rfl (X.move rfl) rfl rfl rfl (by decide +kernel) ?_
      refine Draw.take0 rfl (X.move rfl) rfl rfl rfl (by decide +kernel) ?_
      refine Draw.take0 rfl (X.move rfl) rfl rfl rfl (by decide +kernel) ?_
      refine Draw.take0 rfl (X.indexAddr rfl rfl (by omega) rfl rfl rfl rfl) rfl rfl rfl (by decide +kernel) ?_
      refine Draw.take rfl (X.load1 rfl rfl rfl rfl Pick.head (by assumption)) rfl rfl rfl (by decide +kernel) ?_
      refine Draw.take0 rfl (X.move rfl) rfl rfl rfl (by decide +kernel) ?_
      refine Draw.take0 rfl (X.move rfl) rfl rfl rfl (by decide +kernel) ?_
      refine Draw.take0 rfl (X.indexAddr rfl rfl (by omega) rfl rfl rfl rfl) rfl rfl rfl (by decide +kernel) ?_
      refine Draw.take rfl (X.load1 rfl rfl rfl rfl Pick.head (by assumption)) rfl rfl rfl (by decide +kernel) ?_
      refine Draw.take0 rfl (X.indexAddr rfl rfl (by omega) rfl rfl rfl rfl) rfl rfl rfl (by decide +kernel) ?_
      (refine Draw.last rfl rfl (by decide +kernel) (Y.storeI rfl rfl rfl rfl rfl rfl H Upd.head (by first | omega | (simp only [List.length_set]; omega)) ?_); intro w H0; clear H; have H := H0; clear H0)
      refine Draw2.take rfl (X.indexAddr rfl rfl (by omega) rfl rfl rfl rfl) rfl rfl rfl (by decide +kernel) ?_
      (refine Draw2.eff rfl rfl (by decide +kernel) (Y.storeI rfl rfl rfl rfl rfl rfl H Upd.head (by first | omega | (simp only [List.length_set]; omega)) ?_); intro w H0; clear H; have H := H0; clear H0)
      (refine Draw2.done (by decide +kernel) (hK _ _ ?_); clear hK K)
      (refine Run.seq (Run.region ?_); intro K hK)
      refine Ops.pure H (X.move rfl) rfl rfl rfl ?_
      refine Ops.pure H (X.succ rfl rfl (by omega)) rfl rfl rfl ?_
      refine Ops.pure H (X.assign rfl) rfl rfl rfl ?_
      (refine Ops.nil (hK _ _ ?_); clear hK K)
      (refine Run.region ?_; intro K hK)
      refine Ops.pure H (X.move rfl) rfl rfl rfl ?_
      refine Ops.pure H (X.subN (j := 1) rfl rfl rfl rfl (by omega) (IntWalk.i64_in _ (by omega))) rfl rfl rfl ?_
      refine Ops.pure H (X.assign rfl) rfl rfl rfl ?_
      (refine Ops.nil (hK _ _ ?_); clear hK K)
      refine Run.inBlock ?_
    case' x29 => exfalso; omega
    exact (IH0 (I2 + 1, J2 - 1) _ (by dsimp only; omega) ⟨by dsimp only; omega, by dsimp only; omega, by dsimp only; omega, _, _, by rw [swp_size]; exact hs2, h3.swp1 (i := I2) (j := J2) (by omega) (by omega) (H.pick .head), he, hf3.trans H.fr (by simp) (by simp)⟩).weak (by repeat (first | exact trivial | refine ⟨rfl, ?_⟩))
end Go.Proofs.Ytaneenahapdabaa
