/- Walks of layer 20: bytes cloned; a number put into a list. -/
import Derived.Test.YtaneenahapdabaaTab20b
import Derived.Test.YtaneenahapdabaaEngN
namespace Go.Proofs.Ytaneenahapdabaa
open Go
set_option maxRecDepth 20000
attribute [local irreducible] Run Ops Fn Draw Draw2 PureOp StepZ

abbrev u64s (xs : List Int) : List Value := xs.map (Value.int .u64)
abbrev u8s (xs : List Int) : List Value := xs.map (Value.int .u8)
theorem ne_of_ty {w : World} {b b' t t' : Nat} {cs cs' : List Value} (h : w.heap[b]? = some (row cs t)) (h' : w.heap[b']? = some (row cs' t')) (ht : t ≠ t') : b ≠ b' := by
  intro e
  subst e
  rw [h] at h'
  simp at h'
  exact ht h'.2
theorem nan1_any (z : World) (x : Int) : Fn env.P 52 [.int .u64 x] z fun v w' => v = .bool false ∧ w' = z := by
  have H := Holds.start z []
  have HF := Try.func52; refine Fn.enter Try.func52 Try.ntmps52 rfl rfl rfl ?_
  (refine Run.seq (Run.region ?_); intro K hK)
  refine Ops.pure H (X.assign rfl) rfl rfl rfl ?_
  (refine Ops.nil (hK _ _ (Run.seq (Run.region ?_))); clear hK K; intro K hK)
  refine Ops.pure H (X.move rfl) rfl rfl rfl ?_
  refine Ops.pure H (X.move rfl) rfl rfl rfl ?_
  refine Ops.pure H (X.cmp rfl rfl rfl) rfl rfl rfl ?_
  refine Ops.pure H (X.assign rfl) rfl rfl rfl ?_
  (refine Ops.nil (hK _ _ ?_); clear hK K)
  refine Fn.ret1 HF rfl rfl ?_
  exact ⟨by simp, rfl⟩
theorem nan2_any (z : World) (x : Int) : Fn env.P 38 [.int .u64 x] z fun v w' => v = .bool false ∧ w' = z := by
  have H := Holds.start z []
  have HF := Try.func38; refine Fn.enter Try.func38 Try.ntmps38 rfl rfl rfl ?_
  (refine Run.seq (Run.region ?_); intro K hK)
  refine Ops.pure H (X.assign rfl) rfl rfl rfl ?_
  (refine Ops.nil (hK _ _ (Run.seq (Run.region ?_))); clear hK K; intro K hK)
  refine Ops.pure H (X.move rfl) rfl rfl rfl ?_
  refine Ops.pure H (X.move rfl) rfl rfl rfl ?_
  refine Ops.pure H (X.cmp rfl rfl rfl) rfl rfl rfl ?_
  refine Ops.pure H (X.assign rfl) rfl rfl rfl ?_
  (refine Ops.nil (hK _ _ ?_); clear hK K)
  refine Fn.ret1 HF rfl rfl ?_
  exact ⟨by simp, rfl⟩
theorem less_any (z : World) (x y : Int) : Fn env.P 37 [.int .u64 x, .int .u64 y] z fun v w' => v = .bool (decide (x < y)) ∧ w' = z := by
  have H := Holds.start z []
  have HF := Try.func37; refine Fn.enter Try.func37 Try.ntmps37 rfl rfl rfl ?_
  (refine Run.seq (Run.region ?_); intro K hK)
  refine Ops.pure H (X.assign rfl) rfl rfl rfl ?_
  (refine Ops.nil (hK _ _ (Run.seq (Run.region ?_))); clear hK K; intro K hK)
  refine Ops.pure H (X.move rfl) rfl rfl rfl ?_
  refine Ops.eff rfl (Y.call rfl rfl (by first | assumption | decide +kernel) rfl (nan1_any _ x) rfl ?_)
  rintro v w1 ⟨rfl, rfl⟩
  refine Ops.pure H (X.move rfl) rfl rfl rfl ?_
  refine Ops.pass rfl rfl rfl ?_
  refine Ops.pass rfl rfl rfl ?_
  refine Ops.pass rfl rfl rfl ?_
  refine Ops.pure H (X.pick_f rfl rfl) rfl rfl rfl ?_
  refine Ops.pure H (X.move rfl) rfl rfl rfl ?_
  refine Ops.pure H (X.move rfl) rfl rfl rfl ?_
  refine Ops.pure H (X.move rfl) rfl rfl rfl ?_
  refine Ops.pure H (X.cmp rfl rfl rfl) rfl rfl rfl ?_
  refine Ops.pure H (X.pick_f rfl rfl) rfl rfl rfl ?_
  refine Ops.pure H (X.assign rfl) rfl rfl rfl ?_
  (refine Ops.nil (hK _ _ ?_); clear hK K)
  refine Fn.ret1 HF rfl rfl ?_
  exact ⟨rfl, rfl⟩
/-- What the search finds. -/
def bsGo (xs : List Int) (t : Int) : Nat → Nat → Nat → Nat
  | 0, lo, _ => lo
  | k + 1, lo, hi => if lo < hi then (if xs.getD ((lo + hi) / 2) 0 < t then bsGo xs t k ((lo + hi) / 2 + 1) hi else bsGo xs t k lo ((lo + hi) / 2)) else lo
def bsL (xs : List Int) (t : Int) : Nat := bsGo xs t xs.length 0 xs.length
theorem bsGo_eq (xs : List Int) (t : Int) (k lo : Nat) : bsGo xs t k lo lo = lo := by
  cases k <;> simp [bsGo]
/-- A list of numbers, at the head of what is known of a block or behind it. -/
def Sq (w : World) (v : Value) (sb : Nat) (xs : List Int) : Prop :=
  ∃ a cap off cs, v = .slice a xs.length cap ∧ xs.length ≤ cap ∧ cap ≤ 9223372036854775807 ∧ ((a = none ∧ cap = 0) ∨ (a = some ⟨sb, off, none⟩ ∧ w.heap[sb]? = some (row cs 28) ∧ off + cap ≤ cs.length ∧ Cs cs off xs.length (u64s xs)))
theorem Sq.keep {w w' : World} {S : List Nat} {v : Value} {sb : Nat} {xs : List Int} (h : Sq w v sb xs) (hf : Fr w w' S) (hS : sb ∈ S → ∀ ds, w.heap[sb]? ≠ some (row ds 28)) : Sq w' v sb xs := by
  obtain ⟨a, cap, off, cs, h1, h2, h3, h4⟩ := h
  refine ⟨a, cap, off, cs, h1, h2, h3, ?_⟩
  rcases h4 with h4 | ⟨h4, h5, h6⟩
  · exact .inl h4
  · exact .inr ⟨h4, hf.get h5 (fun hm => hS hm _ h5), h6⟩
theorem Sq.ext {w w' : World} {v : Value} {sb : Nat} {xs : List Int} (h : Sq w v sb xs) (hf : Fr w w' []) : Sq w' v sb xs := h.keep hf (by simp)
theorem search_any (z : World) (v : Value) (sb : Nat) (xs : List Int) (t : Int) (h : Sq z v sb xs) (hl : xs.length ≤ 4611686018427387903) :
    Fn env.P 18 [v, .int .u64 t] z fun r w' => ∃ f, r = .tuple #[.int .i64 (bsL xs t : Nat), .bool f] ∧ Fr z w' [] ∧ bsL xs t ≤ xs.length := by
  obtain ⟨a, cap, off, cs, rfl, hc1, hc2, hac⟩ := h
  have H := Holds.start z []
  have HF := Try.func18; refine Fn.enter Try.func18 Try.ntmps18 rfl rfl rfl ?_
  (refine Run.seq (Run.region ?_); intro K hK)
  refine Ops.pure H (X.assign rfl) rfl rfl rfl ?_
  refine Ops.pure H (X.assign rfl) rfl rfl rfl ?_
  (refine Ops.nil (hK _ _ (Run.seq (Run.region ?_))); clear hK K; intro K hK)
  refine Ops.pure H (X.move rfl) rfl rfl rfl ?_
  refine Ops.pure H (X.len_slice rfl rfl rfl) rfl rfl rfl ?_
  refine Ops.pure H (X.assign rfl) rfl rfl rfl ?_
  (refine Ops.nil (hK _ _ (Run.seq (Run.region ?_))); clear hK K; intro K hK)
  refine Ops.pure H (X.move rfl) rfl rfl rfl ?_
  refine Ops.pure H (X.assign rfl) rfl rfl rfl ?_
  refine Ops.pure H (X.assign rfl) rfl rfl rfl ?_
  (refine Ops.nil (hK _ _ ?_); clear hK K)
  refine Run.seq ?_
  refine Run.block ?_
  refine Run.rounds (fun (x : Nat × Nat) => [(0, .slice a xs.length cap), (1, .int .u64 t), (6, .int .i64 (xs.length : Nat)), (7, .int .i64 (x.1 : Nat)), (8, .int .i64 (x.2 : Nat))])
    (fun x w' => Fr z w' [] ∧ x.1 ≤ x.2 ∧ x.2 ≤ xs.length ∧ ∃ k, x.2 - x.1 ≤ k ∧ bsGo xs t k x.1 x.2 = bsL xs t) (fun x => x.2 - x.1) (0, xs.length) (by repeat (first | exact trivial | refine ⟨rfl, ?_⟩)) ⟨H.fr, by omega, by omega, xs.length, by dsimp only; omega, rfl⟩ ?_
  clear H
  rintro ⟨lo, hi⟩ w1 ⟨hfr, hlo, hhi, k, hk, hbs⟩ IH
  dsimp only at hfr hlo hhi hk hbs IH ⊢
  by_cases hlt : lo < hi
  · rcases hac with ⟨_, rfl⟩ | ⟨rfl, hb, hfit, hC⟩
    · omega
    have H := (Holds.start w1 []).add false (hfr.get hb (by simp)) (by simp) (by simp)
    obtain ⟨m, hm⟩ : ∃ m, m = (lo + hi) / 2 := ⟨_, rfl⟩
    have hmi : ((lo : Int) + (hi : Int)) / 2 = (m : Int) := by omega
    have hml : m < xs.length := by omega
    have hcm : cs[off + m * 1]? = some (.int .u64 (xs.getD m 0)) := by rw [Nat.mul_one, hC.toGet hml]; simp [hml]
    obtain ⟨k, rfl⟩ : ∃ k', k = k' + 1 := ⟨k - 1, by omega⟩
    rw [bsGo, if_pos hlt, ← hm] at hbs
    refine Run.seq ?_
    (refine Run.seq (Run.region ?_); intro K hK)
    refine Ops.pure H (X.move rfl) rfl rfl rfl ?_
    refine Ops.pure H (X.move rfl) rfl rfl rfl ?_
    refine Ops.pure H (X.cmp rfl rfl rfl) rfl rfl rfl ?_
    (refine Ops.nil (hK _ _ ?_); clear hK K)
    refine Run.cond_dec rfl (fun h15 => ?x0) (fun h15 => ?y0)
    case' y0 => exfalso; omega
    case' x0 =>
      refine Run.skip ?_
      refine Run.block ?_
      (refine Run.seq (Run.region ?_); intro K hK)
      refine Ops.pure H (X.move rfl) rfl rfl rfl ?_
      refine Ops.pure H (X.move rfl) rfl rfl rfl ?_
      refine Ops.pure H (X.add_in rfl rfl (IntWalk.i64_in _ (by omega))) rfl rfl rfl ?_
      refine Ops.pure H (X.conv rfl rfl rfl rfl rfl (u64_in _ (by omega))) rfl rfl rfl ?_
      refine Ops.pure H (X.half rfl rfl ⟨by omega, by decide⟩ rfl) rfl rfl rfl ?_
      refine Ops.pure H (X.conv rfl rfl rfl rfl rfl (IntWalk.i64_in _ (by omega))) rfl rfl rfl ?_
      refine Ops.pure H (X.assign rfl) rfl rfl rfl ?_
      (refine Ops.nil (hK _ _ (Run.seq (Run.region ?_))); clear hK K; intro K hK)
      refine Ops.pure H (X.move rfl) rfl rfl rfl ?_
      refine Ops.pure H (X.move rfl) rfl rfl rfl ?_
    rw [hmi]
    refine Ops.pure H (X.indexAddr rfl rfl (by omega) rfl rfl rfl rfl) rfl rfl rfl ?_
    refine Ops.pure H (X.load1 rfl rfl rfl rfl Pick.head (by assumption)) rfl rfl rfl ?_
    refine Ops.pure H (X.move rfl) rfl rfl rfl ?_
    refine Ops.eff rfl (Y.call rfl rfl (by first | assumption | decide +kernel) rfl (less_any _ (xs.getD m 0) t) rfl ?_)
    rintro v w2 ⟨rfl, rfl⟩
    (refine Ops.nil (hK _ _ ?_); clear hK K)
    refine Run.cond_dec rfl (fun h27 => ?x1) (fun h27 => ?y1)
    case' y1 =>
      (refine Run.region ?_; intro K hK)
      refine Ops.pure H (X.move rfl) rfl rfl rfl ?_
      refine Ops.pure H (X.assign rfl) rfl rfl rfl ?_
      (refine Ops.nil (hK _ _ ?_); clear hK K)
      refine Run.inBlock ?_
    case' x1 =>
      (refine Run.region ?_; intro K hK)
      refine Ops.pure H (X.move rfl) rfl rfl rfl ?_
      refine Ops.pure H (X.succ rfl rfl (by omega)) rfl rfl rfl ?_
      refine Ops.pure H (X.assign rfl) rfl rfl rfl ?_
      (refine Ops.nil (hK _ _ ?_); clear hK K)
      refine Run.inBlock ?_
    · rw [if_pos h27] at hbs
      exact (IH (m + 1, hi) _ (by dsimp only; omega) ⟨hfr.then H.fr, by dsimp only; omega, by dsimp only; omega, k, by dsimp only; omega, hbs⟩).weak (by repeat (first | exact trivial | refine ⟨rfl, ?_⟩))
    · rw [if_neg h27] at hbs
      exact (IH (lo, m) _ (by dsimp only; omega) ⟨hfr.then H.fr, by dsimp only; omega, by dsimp only; omega, k, by dsimp only; omega, hbs⟩).weak (by repeat (first | exact trivial | refine ⟨rfl, ?_⟩))
  · obtain rfl : lo = hi := by omega
    rw [bsGo_eq] at hbs
    by_cases hll : lo < xs.length
    · rcases hac with ⟨_, rfl⟩ | ⟨rfl, hb, hfit, hC⟩
      · omega
      have hcm : cs[off + lo * 1]? = some (.int .u64 (xs.getD lo 0)) := by rw [Nat.mul_one, hC.toGet hll]; simp [hll]
      have H := (Holds.start w1 []).add false (hfr.get hb (by simp)) (by simp) (by simp)
      refine Run.seq ?_
      (refine Run.seq (Run.region ?_); intro K hK)
      refine Ops.pure H (X.move rfl) rfl rfl rfl ?_
      refine Ops.pure H (X.move rfl) rfl rfl rfl ?_
      refine Ops.pure H (X.cmp rfl rfl rfl) rfl rfl rfl ?_
      (refine Ops.nil (hK _ _ ?_); clear hK K)
      refine Run.cond_dec rfl (fun h15 => ?x2) (fun h15 => ?y2)
      case' y2 =>
        refine Run.exit rfl ?_
        (refine Run.seq (Run.region ?_); intro K hK)
        refine Ops.pure H (X.move rfl) rfl rfl rfl ?_
        refine Ops.pure H (X.move rfl) rfl rfl rfl ?_
        refine Ops.pure H (X.move rfl) rfl rfl rfl ?_
        refine Ops.pure H (X.cmp rfl rfl rfl) rfl rfl rfl ?_
        refine Ops.pure H (X.move rfl) rfl rfl rfl ?_
        refine Ops.split_dec rfl rfl (fun h36 => ?x3) (fun h36 => ?y3)
        case' y3 => exfalso; omega
        case' x3 =>
          refine Ops.pure H (X.move rfl) rfl rfl rfl ?_
          refine Ops.pure H (X.move rfl) rfl rfl rfl ?_
          refine Ops.pure H (X.indexAddr rfl rfl (by omega) rfl rfl rfl rfl) rfl rfl rfl ?_
          refine Ops.pure H (X.load1 rfl rfl rfl rfl Pick.head (by assumption)) rfl rfl rfl ?_
          refine Ops.pure H (X.move rfl) rfl rfl rfl ?_
          refine Ops.pure H (X.cmp rfl rfl rfl) rfl rfl rfl ?_
          refine Ops.pure H (X.move rfl) rfl rfl rfl ?_
          refine Ops.split_dec rfl rfl (fun h43 => ?x4) (fun h43 => ?y4)
          case' y4 =>
            refine Ops.pure H (X.move rfl) rfl rfl rfl ?_
            refine Ops.pure H (X.move rfl) rfl rfl rfl ?_
            refine Ops.pure H (X.indexAddr rfl rfl (by omega) rfl rfl rfl rfl) rfl rfl rfl ?_
            refine Ops.pure H (X.load1 rfl rfl rfl rfl Pick.head (by assumption)) rfl rfl rfl ?_
          case' x4 =>
            refine Ops.pass rfl rfl rfl ?_
            refine Ops.pass rfl rfl rfl ?_
            refine Ops.pass rfl rfl rfl ?_
            refine Ops.pass rfl rfl rfl ?_
            refine Ops.pass rfl rfl rfl ?_
            refine Ops.pass rfl rfl rfl ?_
            refine Ops.pass rfl rfl rfl ?_
            refine Ops.pass rfl rfl rfl ?_
            refine Ops.pass rfl rfl rfl ?_
            refine Ops.pure H (X.pick_t rfl rfl) rfl rfl rfl ?_
            refine Ops.pure H (X.pick_t rfl rfl) rfl rfl rfl ?_
            refine Ops.pure H (X.assign rfl) rfl rfl rfl ?_
            refine Ops.pure H (X.assign rfl) rfl rfl rfl ?_
            (refine Ops.nil (hK _ _ ?_); clear hK K)
      case' x2 => exfalso; omega
      · refine Fn.ret2 HF rfl rfl rfl ?_
        exact ⟨_, by rw [← hbs], hfr.then H.fr, by omega⟩
      · refine Ops.eff rfl (Y.call rfl rfl (by first | assumption | decide +kernel) rfl (nan2_any _ _) rfl ?_)
        rintro v w2 ⟨rfl, rfl⟩
        refine Ops.pure H (X.move rfl) rfl rfl rfl ?_
        refine Ops.pass rfl rfl rfl ?_
        refine Ops.pass rfl rfl rfl ?_
        refine Ops.pure H (X.pick_f rfl rfl) rfl rfl rfl ?_
        refine Ops.pure H (X.pick_f rfl rfl) rfl rfl rfl ?_
        refine Ops.pure H (X.pick_t rfl rfl) rfl rfl rfl ?_
        refine Ops.pure H (X.assign rfl) rfl rfl rfl ?_
        refine Ops.pure H (X.assign rfl) rfl rfl rfl ?_
        (refine Ops.nil (hK _ _ ?_); clear hK K)
        refine Fn.ret2 HF rfl rfl rfl ?_
        exact ⟨_, by rw [← hbs], hfr.then H.fr, by omega⟩
    · have H := Holds.start w1 []
      refine Run.seq ?_
      (refine Run.seq (Run.region ?_); intro K hK)
      refine Ops.pure H (X.move rfl) rfl rfl rfl ?_
      refine Ops.pure H (X.move rfl) rfl rfl rfl ?_
      refine Ops.pure H (X.cmp rfl rfl rfl) rfl rfl rfl ?_
      (refine Ops.nil (hK _ _ ?_); clear hK K)
      refine Run.cond_dec rfl (fun h15 => ?x5) (fun h15 => ?y5)
      case' y5 =>
        refine Run.exit rfl ?_
        (refine Run.seq (Run.region ?_); intro K hK)
        refine Ops.pure H (X.move rfl) rfl rfl rfl ?_
        refine Ops.pure H (X.move rfl) rfl rfl rfl ?_
        refine Ops.pure H (X.move rfl) rfl rfl rfl ?_
        refine Ops.pure H (X.cmp rfl rfl rfl) rfl rfl rfl ?_
        refine Ops.pure H (X.move rfl) rfl rfl rfl ?_
        refine Ops.split_dec rfl rfl (fun h36 => ?x6) (fun h36 => ?y6)
        case' y6 =>
          refine Ops.pass rfl rfl rfl ?_
          refine Ops.pass rfl rfl rfl ?_
          refine Ops.pass rfl rfl rfl ?_
          refine Ops.pass rfl rfl rfl ?_
          refine Ops.pass rfl rfl rfl ?_
          refine Ops.pass rfl rfl rfl ?_
          refine Ops.pass rfl rfl rfl ?_
          refine Ops.pass rfl rfl rfl ?_
          refine Ops.pass rfl rfl rfl ?_
          refine Ops.pass rfl rfl rfl ?_
          refine Ops.pass rfl rfl rfl ?_
          refine Ops.pass rfl rfl rfl ?_
          refine Ops.pass rfl rfl rfl ?_
          refine Ops.pass rfl rfl rfl ?_
          refine Ops.pass rfl rfl rfl ?_
          refine Ops.pass rfl rfl rfl ?_
          refine Ops.pass rfl rfl rfl ?_
          refine Ops.pure H (X.pick_f rfl rfl) rfl rfl rfl ?_
          refine Ops.pure H (X.assign rfl) rfl rfl rfl ?_
          refine Ops.pure H (X.assign rfl) rfl rfl rfl ?_
          (refine Ops.nil (hK _ _ ?_); clear hK K)
        case' x6 => exfalso; omega
      case' x5 => exfalso; omega
      refine Fn.ret2 HF rfl rfl rfl ?_
      exact ⟨_, by rw [← hbs], hfr.then H.fr, by omega⟩
end Go.Proofs.Ytaneenahapdabaa

namespace Go.Proofs.Ytaneenahapdabaa
open Go
set_option maxRecDepth 20000
set_option maxHeartbeats 1000000
attribute [local irreducible] Run Ops Fn Draw Draw2 PureOp StepZ

/-- A slice of bytes. -/
def Bys (w : World) (v : Value) (xs : List Int) : Prop :=
  ∃ a cap b off cs T fz, v = .slice a xs.length cap ∧ xs.length ≤ cap ∧ cap ≤ 9223372036854775807 ∧ (0 < xs.length → a = some ⟨b, off, none⟩ ∧ w.heap[b]? = some (.cells (List.toArray cs) T fz)) ∧ Cs cs off xs.length (u8s xs)
/-- A slice of bytes in a row of its own (or none). -/
def Ans (w : World) (v : Value) (xs : List Int) : Prop :=
  ∃ a cap b cs fz, v = .slice a xs.length cap ∧ xs.length ≤ cap ∧ cap ≤ 9223372036854775807 ∧ (0 < xs.length → a = some ⟨b, 0, none⟩ ∧ w.heap[b]? = some (.cells (List.toArray cs) 5 fz)) ∧ Cs cs 0 xs.length (u8s xs)
theorem Ans.bys {w : World} {v : Value} {xs : List Int} (h : Ans w v xs) : Bys w v xs := by
  obtain ⟨a, cap, b, cs, fz, h1, h2, h3, h4, h5⟩ := h
  exact ⟨a, cap, b, 0, cs, 5, fz, h1, h2, h3, h4, h5⟩
theorem Bys.ext {w w' : World} {v : Value} {xs : List Int} (h : Bys w v xs) (hf : Fr w w' []) : Bys w' v xs := by
  obtain ⟨a, cap, b, off, cs, T, fz, h1, h2, h3, h4, h5⟩ := h
  exact ⟨a, cap, b, off, cs, T, fz, h1, h2, h3, fun hp => ⟨(h4 hp).1, hf.get (h4 hp).2 (by simp)⟩, h5⟩
/-- A block that holds no bytes. -/
def No5 (w : World) (b : Nat) : Prop := ∀ ds fz, w.heap[b]? ≠ some (.cells ds 5 fz)
theorem No5.row {w : World} {b t : Nat} {cs : List Value} (h : w.heap[b]? = some (row cs t)) (ht : t ≠ 5) : No5 w b := fun ds fz hd => by
  rw [h] at hd
  simp at hd
  exact ht hd.2.1
theorem No5.map {w : World} {b k : Nat} {es : Array MapEntry} (h : w.heap[b]? = some (.map es k)) : No5 w b := fun ds fz hd => by
  rw [h] at hd
  cases hd
theorem Ans.keep {w w' : World} {S : List Nat} {v : Value} {xs : List Int} (h : Ans w v xs) (hf : Fr w w' S) (hS : ∀ b ∈ S, No5 w b) : Ans w' v xs := by
  obtain ⟨a, cap, b, cs, fz, h1, h2, h3, h4, h5⟩ := h
  exact ⟨a, cap, b, cs, fz, h1, h2, h3, fun hp => ⟨(h4 hp).1, hf.get (h4 hp).2 (fun hm => hS b hm _ _ (h4 hp).2)⟩, h5⟩
theorem Ans.slice {w : World} {v : Value} {xs : List Int} (h : Ans w v xs) : ∃ a cap, v = .slice a xs.length cap := by
  obtain ⟨a, cap, _, _, _, h1, _⟩ := h
  exact ⟨a, cap, h1⟩
theorem Ans.nil {w : World} : Ans w (.slice none 0 0) [] := ⟨none, 0, 0, [], (0, 0), rfl, by simp, by omega, fun h => absurd h (Nat.lt_irrefl 0), .nil⟩
theorem Bys.src {w : World} {xa : Option Addr} {m xc : Nat} {xs : List Int} (h : Bys w (.slice xa m xc) xs) : Src w xa (u8s xs) := by
  obtain ⟨a, cap, b, off, cs, T, fz, e, h2, h3, h4, h5⟩ := h
  cases e
  intro j v hj
  have hj' : j < xs.length := by simpa using (List.getElem?_eq_some_iff.1 hj).1
  obtain ⟨rfl, h6⟩ := h4 (by omega)
  exact ⟨_, rfl, by rw [Addr.add_lit]; exact (cell_cells h6).trans (h5.get j v hj)⟩
theorem u8s_one (xs : List Int) : ∀ v ∈ u8s xs, v.oneCell' = true := by
  intro v hv
  obtain ⟨x, _, rfl⟩ := List.mem_map.1 hv
  rfl
theorem u64s_one (xs : List Int) : ∀ v ∈ u64s xs, v.oneCell' = true := by
  intro v hv
  obtain ⟨x, _, rfl⟩ := List.mem_map.1 hv
  rfl
theorem bclone_any (z : World) (v : Value) (xs : List Int) (hv : Bys z v xs) (hb : xs.length ≤ 140737488355327) :
    Fn env.P 20 [v] z fun r w' => Ans w' r xs ∧ Fr z w' [] := by
  have hv' := hv
  obtain ⟨a, cap, b, off, cs, T, fz, rfl, h2, h3, h4, h5⟩ := hv
  cases a with
  | none =>
    have h0 : xs.length = 0 := by
      rcases Nat.eq_zero_or_pos xs.length with h | h
      · exact h
      · have := (h4 h).1; cases this
    have hx : xs = [] := List.eq_nil_of_length_eq_zero h0
    subst hx
    have H := Holds.start z []
    have HF := Try.func20; refine Fn.enter Try.func20 Try.ntmps20 rfl rfl rfl ?_
    (refine Run.seq (Run.region ?_); intro K hK)
    refine Ops.pure H (X.assign rfl) rfl rfl rfl ?_
    (refine Ops.nil (hK _ _ ?_); clear hK K)
    refine Run.seq ?_
    (refine Run.seq (Run.region ?_); intro K hK)
    refine Ops.pure H (X.move rfl) rfl rfl rfl ?_
    refine Ops.pure H (X.sliceNil rfl rfl rfl rfl rfl) rfl rfl rfl ?_
    (refine Ops.nil (hK _ _ ?_); clear hK K)
    refine Run.cond_true rfl ?_
    (refine Run.seq (Run.region ?_); intro K hK)
    refine Ops.pure H (X.assign rfl) rfl rfl rfl ?_
    (refine Ops.nil (hK _ _ ?_); clear hK K)
    refine Fn.ret1 HF rfl rfl ?_
    exact ⟨Ans.nil, H.fr⟩
  | some a =>
    by_cases h0 : 0 < xs.length
    · have H := Holds.start z []
      have HF := Try.func20; refine Fn.enter Try.func20 Try.ntmps20 rfl rfl rfl ?_
      (refine Run.seq (Run.region ?_); intro K hK)
      refine Ops.pure H (X.assign rfl) rfl rfl rfl ?_
      (refine Ops.nil (hK _ _ ?_); clear hK K)
      refine Run.seq ?_
      (refine Run.seq (Run.region ?_); intro K hK)
      refine Ops.pure H (X.move rfl) rfl rfl rfl ?_
      refine Ops.pure H (X.sliceNil rfl rfl rfl rfl rfl) rfl rfl rfl ?_
      (refine Ops.nil (hK _ _ ?_); clear hK K)
      refine Run.cond_false rfl ?_
      refine Run.skip ?_
      (refine Run.seq (Run.region ?_); intro K hK)
      (refine Ops.eff rfl (Y.buildSliceO rfl rfl rfl rfl rfl rfl rfl rfl H ?_); intro b5 w H0 hb5; clear H; have H := H0; clear H0)
      refine Ops.pure H (X.move rfl) rfl rfl rfl ?_
      refine Ops.eff rfl (Y.append_grow (olds := []) (news := u8s xs) rfl rfl rfl rfl rfl H (by omega) Src.nil rfl (by simp) ((hv'.ext H.fr).src) rfl (by dsimp only; omega) (by omega) rfl ?_)
      intro b7 cap7 sp w H hb7 hc7 hm7 _
      refine Ops.pure H (X.assign rfl) rfl rfl rfl ?_
      (refine Ops.nil (hK _ _ ?_); clear hK K)
      refine Fn.ret1 HF rfl rfl ?_
      exact ⟨⟨_, cap7, b7, _, (0, 0), by rw [Nat.zero_add], by omega, hm7, fun _ => ⟨rfl, H.pick .head⟩, (Cs.mid [] _ _).cast rfl (by simp) rfl⟩, H.fr⟩
    · have hx : xs = [] := List.eq_nil_of_length_eq_zero (by omega)
      subst hx
      have H := Holds.start z []
      have HF := Try.func20; refine Fn.enter Try.func20 Try.ntmps20 rfl rfl rfl ?_
      (refine Run.seq (Run.region ?_); intro K hK)
      refine Ops.pure H (X.assign rfl) rfl rfl rfl ?_
      (refine Ops.nil (hK _ _ ?_); clear hK K)
      refine Run.seq ?_
      (refine Run.seq (Run.region ?_); intro K hK)
      refine Ops.pure H (X.move rfl) rfl rfl rfl ?_
      refine Ops.pure H (X.sliceNil rfl rfl rfl rfl rfl) rfl rfl rfl ?_
      (refine Ops.nil (hK _ _ ?_); clear hK K)
      refine Run.cond_false rfl ?_
      refine Run.skip ?_
      (refine Run.seq (Run.region ?_); intro K hK)
      (refine Ops.eff rfl (Y.buildSliceO rfl rfl rfl rfl rfl rfl rfl rfl H ?_); intro b5 w H0 hb5; clear H; have H := H0; clear H0)
      refine Ops.pure H (X.move rfl) rfl rfl rfl ?_
      refine Ops.eff rfl (Y.append_room (news := []) rfl rfl rfl rfl rfl H .head (by simp) (by simp) rfl Src.nil (by simp) rfl ?_)
      intro w' H'
      clear H
      have H := H'
      clear H'
      refine Ops.pure H (X.assign rfl) rfl rfl rfl ?_
      (refine Ops.nil (hK _ _ ?_); clear hK K)
      refine Fn.ret1 HF rfl rfl ?_
      exact ⟨⟨_, _, 0, [], (0, 0), rfl, by simp, by simp, fun h => absurd h (Nat.lt_irrefl 0), .nil⟩, H.fr⟩
theorem own_any (z : World) (v : Value) (xs : List Int) (hv : Bys z v xs) (hb : xs.length ≤ 140737488355327) :
    Fn env.P 8 [v] z fun r w' => Ans w' r xs ∧ Fr z w' [] := by
  have hv' := hv
  obtain ⟨a, cap, b, off, cs, T, fz, rfl, h2, h3, h4, h5⟩ := hv
  have H := Holds.start z []
  have HF := Try.func8; refine Fn.enter Try.func8 Try.ntmps8 rfl rfl rfl ?_
  (refine Run.seq (Run.region ?_); intro K hK)
  refine Ops.pure H (X.assign rfl) rfl rfl rfl ?_
  (refine Ops.nil (hK _ _ (Run.seq (Run.region ?_))); clear hK K; intro K hK)
  refine Ops.pure H (X.move rfl) rfl rfl rfl ?_
  refine Ops.pure H (X.len_slice rfl rfl rfl) rfl rfl rfl ?_
  refine Ops.pure H (X.add_in rfl rfl (IntWalk.i64_in _ (by omega))) rfl rfl rfl ?_
  refine Ops.eff rfl (Y.make (len := 0) (cap := xs.length + 2) rfl rfl (by omega) rfl rfl rfl rfl (by dsimp only; omega) (by omega) rfl H ?_)
  intro nb ncs w H hnb hnl hnr
  refine Ops.pure H (X.move rfl) rfl rfl rfl ?_
  refine Ops.eff rfl (Y.append_room (news := u8s xs) rfl rfl rfl rfl rfl H .head (by omega) (by dsimp only at hnl ⊢; omega) (by simp) ((hv'.ext H.fr).src) (u8s_one xs) rfl ?_)
  intro w H
  refine Ops.pure H (X.assign rfl) rfl rfl rfl ?_
  (refine Ops.nil (hK _ _ ?_); clear hK K)
  refine Fn.ret1 HF rfl rfl ?_
  dsimp only at hnl
  exact ⟨⟨_, _, nb, _, (0, 0), by rw [Nat.zero_add], by omega, by omega, fun _ => ⟨rfl, H.pick .head⟩, (Cs.put (by simp; omega)).cast rfl (by simp) rfl⟩, H.fr⟩
/-- A number put into a list. -/
def insL (i : Nat) (x : Int) (xs : List Int) : List Int := xs.take i ++ x :: xs.drop i
theorem insL_len {i : Nat} {x : Int} {xs : List Int} (h : i ≤ xs.length) : (insL i x xs).length = xs.length + 1 := by
  simp [insL]; omega
theorem insert_any (z : World) (v : Value) (sb : Nat) (xs : List Int) (i : Nat) (x : Int) (vb : Nat) (h : Sq z v sb xs) (hi : i ≤ xs.length) (hl : xs.length ≤ 4096) (hv : z.heap[vb]? = some (row [.int .u64 x] 28)) (hne : vb ≠ sb) :
    Fn env.P 19 [v, .int .i64 (i : Nat), .slice (some ⟨vb, 0, none⟩) 1 1] z fun r w' => ∃ sb' S, Sq w' r sb' (insL i x xs) ∧ (sb' = sb ∨ z.heap.size ≤ sb') ∧ Fr z w' S ∧ ∀ b ∈ S, b = sb ∧ ∃ ds, z.heap[b]? = some (row ds 28) := by
  obtain ⟨a, cap, off, cs, rfl, hc1, hc2, hac⟩ := h
  rcases hac with ⟨rfl, rfl⟩ | ⟨rfl, hb, hfit, hC⟩
  · have hx : xs = [] := List.eq_nil_of_length_eq_zero (by omega)
    subst hx
    obtain rfl : i = 0 := by simpa using hi
    have H := (Holds.start z []).add false hv (by simp) (by simp)
    have HF := Try.func19; refine Fn.enter Try.func19 Try.ntmps19 rfl rfl rfl ?_
    (refine Run.seq (Run.region ?_); intro K hK)
    refine Ops.pure H (X.assign rfl) rfl rfl rfl ?_
    (refine Ops.nil (hK _ _ (Run.seq (Run.region ?_))); clear hK K; intro K hK)
    refine Ops.pure H (X.move rfl) rfl rfl rfl ?_
    refine Ops.pure H (X.move rfl) rfl rfl rfl ?_
    refine Ops.pure H (X.slice_l0 rfl rfl rfl rfl rfl rfl) rfl rfl rfl ?_
    (refine Ops.nil (hK _ _ (Run.seq (Run.region ?_))); clear hK K; intro K hK)
    refine Ops.pure H (X.move rfl) rfl rfl rfl ?_
    refine Ops.pure H (X.len_slice rfl rfl rfl) rfl rfl rfl ?_
    refine Ops.pure H (X.assign rfl) rfl rfl rfl ?_
    (refine Ops.nil (hK _ _ ?_); clear hK K)
    refine Run.seq ?_
    (refine Run.seq (Run.region ?_); intro K hK)
    refine Ops.pure H (X.move rfl) rfl rfl rfl ?_
    refine Ops.pure H (X.cmp rfl rfl rfl) rfl rfl rfl ?_
    (refine Ops.nil (hK _ _ ?_); clear hK K)
    refine Run.cond_false rfl ?_
    refine Run.skip ?_
    (refine Run.seq (Run.region ?_); intro K hK)
    refine Ops.pure H (X.move rfl) rfl rfl rfl ?_
    refine Ops.pure H (X.len_slice rfl rfl rfl) rfl rfl rfl ?_
    refine Ops.pure H (X.assign rfl) rfl rfl rfl ?_
    (refine Ops.nil (hK _ _ ?_); clear hK K)
    refine Run.seq ?_
    (refine Run.seq (Run.region ?_); intro K hK)
    refine Ops.pure H (X.move rfl) rfl rfl rfl ?_
    refine Ops.pure H (X.move rfl) rfl rfl rfl ?_
    refine Ops.pure H (X.cmp rfl rfl rfl) rfl rfl rfl ?_
    (refine Ops.nil (hK _ _ ?_); clear hK K)
    refine Run.cond_true rfl ?_
    (refine Run.seq (Run.region ?_); intro K hK)
    refine Ops.pure H (X.move rfl) rfl rfl rfl ?_
    refine Ops.pure H (X.move rfl) rfl rfl rfl ?_
    refine Ops.eff rfl (Y.append_grow (olds := []) (news := [.int .u64 x]) rfl rfl rfl rfl rfl H (by simp) Src.nil rfl rfl (Src.row (m := 1) H .head (Cs.take rfl)) rfl (by simp) (by simp) rfl ?_)
    intro b7 cap7 sp w H hb7 hc7 hm7 hsp
    refine Ops.pure H (X.assign rfl) rfl rfl rfl ?_
    (refine Ops.nil (hK _ _ ?_); clear hK K)
    refine Fn.ret1 HF rfl rfl ?_
    refine ⟨b7, [], ⟨_, cap7, 0, _, rfl, by simpa [insL] using hc7, hm7, .inr ⟨rfl, H.pick .head, ?_, (Cs.mid [] [Value.int .u64 x] sp).cast rfl rfl rfl⟩⟩, .inr hb7, H.fr, by simp⟩
    simp at hsp hc7 ⊢
    omega
  have hs : ∀ b ∈ [sb], b = sb ∧ ∃ ds, z.heap[b]? = some (row ds 28) := by intro b hm; simp at hm; subst hm; exact ⟨rfl, _, hb⟩
  have H := ((Holds.start z [sb]).add false hv (by simp) (by simp)).add true hb (by simpa using fun e => hne e.symm) (by simp)
  have hCl : cs.length ≥ off + xs.length := by omega
  by_cases hie : i = xs.length
  · subst hie
    have hins : insL xs.length x xs = xs ++ [x] := by simp [insL]
    have hil : (insL xs.length x xs).length = xs.length + 1 := insL_len (Nat.le_refl _)
    have HF := Try.func19; refine Fn.enter Try.func19 Try.ntmps19 rfl rfl rfl ?_
    (refine Run.seq (Run.region ?_); intro K hK)
    refine Ops.pure H (X.assign rfl) rfl rfl rfl ?_
    (refine Ops.nil (hK _ _ (Run.seq (Run.region ?_))); clear hK K; intro K hK)
    refine Ops.pure H (X.move rfl) rfl rfl rfl ?_
    refine Ops.pure H (X.move rfl) rfl rfl rfl ?_
    refine Ops.pure H (X.slice_l rfl rfl (by omega) rfl rfl rfl rfl) rfl rfl rfl ?_
    (refine Ops.nil (hK _ _ (Run.seq (Run.region ?_))); clear hK K; intro K hK)
    refine Ops.pure H (X.move rfl) rfl rfl rfl ?_
    refine Ops.pure H (X.len_slice rfl rfl rfl) rfl rfl rfl ?_
    refine Ops.pure H (X.assign rfl) rfl rfl rfl ?_
    (refine Ops.nil (hK _ _ ?_); clear hK K)
    refine Run.seq ?_
    (refine Run.seq (Run.region ?_); intro K hK)
    refine Ops.pure H (X.move rfl) rfl rfl rfl ?_
    refine Ops.pure H (X.cmp rfl rfl rfl) rfl rfl rfl ?_
    (refine Ops.nil (hK _ _ ?_); clear hK K)
    refine Run.cond_false rfl ?_
    refine Run.skip ?_
    (refine Run.seq (Run.region ?_); intro K hK)
    refine Ops.pure H (X.move rfl) rfl rfl rfl ?_
    refine Ops.pure H (X.len_slice rfl rfl rfl) rfl rfl rfl ?_
    refine Ops.pure H (X.assign rfl) rfl rfl rfl ?_
    (refine Ops.nil (hK _ _ ?_); clear hK K)
    refine Run.seq ?_
    (refine Run.seq (Run.region ?_); intro K hK)
    refine Ops.pure H (X.move rfl) rfl rfl rfl ?_
    refine Ops.pure H (X.move rfl) rfl rfl rfl ?_
    refine Ops.pure H (X.cmp rfl rfl rfl) rfl rfl rfl ?_
    (refine Ops.nil (hK _ _ ?_); clear hK K)
    refine Run.cond_dec rfl (fun h22 => ?x0) (fun h22 => ?y0)
    case' y0 => exfalso; omega
    case' x0 =>
      (refine Run.seq (Run.region ?_); intro K hK)
      refine Ops.pure H (X.move rfl) rfl rfl rfl ?_
      refine Ops.pure H (X.move rfl) rfl rfl rfl ?_
    by_cases hroom : xs.length + 1 ≤ cap
    · refine Ops.eff rfl (Y.append_room (news := [.int .u64 x]) rfl rfl rfl rfl rfl H .head hroom (by dsimp only; omega) rfl (Src.row (m := 1) H (.tail .head) (Cs.take rfl)) (by simp [Value.oneCell']) rfl ?_)
      intro w H
      refine Ops.pure H (X.assign rfl) rfl rfl rfl ?_
      (refine Ops.nil (hK _ _ ?_); clear hK K)
      refine Fn.ret1 HF rfl rfl ?_
      have hput : off + xs.length * 1 + [Value.int .u64 x].length ≤ cs.length := by simp; omega
      refine ⟨sb, [sb], ⟨_, cap, off, _, by rw [hil], by omega, hc2, .inr ⟨rfl, H.pick .head, by rw [putC_length]; exact hfit, ?_⟩⟩, .inl rfl, H.fr, hs⟩
      rw [hil, hins, show u64s (xs ++ [x]) = u64s xs ++ [Value.int .u64 x] by simp]
      exact (hC.apart hput (.inl (by omega))).append ((Cs.put hput).cast (by omega) rfl rfl)
    · refine Ops.eff rfl (Y.append_grow (olds := u64s xs) (news := [.int .u64 x]) rfl rfl rfl rfl rfl H (by omega) (Src.row H .head hC) (by simp) rfl (Src.row (m := 1) H (.tail .head) (Cs.take rfl)) rfl (by dsimp only; omega) (by omega) rfl ?_)
      intro b7 cap7 sp w H hb7 hc7 hm7 hsp
      refine Ops.pure H (X.assign rfl) rfl rfl rfl ?_
      (refine Ops.nil (hK _ _ ?_); clear hK K)
      refine Fn.ret1 HF rfl rfl ?_
      dsimp only at hsp
      refine ⟨b7, [sb], ⟨_, cap7, 0, _, by rw [hil], by omega, hm7, .inr ⟨rfl, H.pick .head, ?_, ?_⟩⟩, .inr hb7, H.fr, hs⟩
      · simp at hsp ⊢; omega
      · rw [hil, hins, show u64s (xs ++ [x]) = u64s xs ++ [Value.int .u64 x] by simp]
        exact (Cs.mid [] (u64s xs ++ [Value.int .u64 x]) sp).cast rfl (by simp) rfl
  · have hil : (insL i x xs).length = xs.length + 1 := insL_len hi
    by_cases hroom : xs.length + 1 ≤ cap
    · have hci : ¬ cap = i + 1 := by omega
      have hci0 : ¬ cap = i := by omega
      have hcs0 : cs.length ≠ 0 := by omega
      have HF := Try.func19; refine Fn.enter Try.func19 Try.ntmps19 rfl rfl rfl ?_
      (refine Run.seq (Run.region ?_); intro K hK)
      refine Ops.pure H (X.assign rfl) rfl rfl rfl ?_
      (refine Ops.nil (hK _ _ (Run.seq (Run.region ?_))); clear hK K; intro K hK)
      refine Ops.pure H (X.move rfl) rfl rfl rfl ?_
      refine Ops.pure H (X.move rfl) rfl rfl rfl ?_
      refine Ops.pure H (X.slice_l rfl rfl (by omega) rfl rfl rfl rfl) rfl rfl rfl ?_
      (refine Ops.nil (hK _ _ (Run.seq (Run.region ?_))); clear hK K; intro K hK)
      refine Ops.pure H (X.move rfl) rfl rfl rfl ?_
      refine Ops.pure H (X.len_slice rfl rfl rfl) rfl rfl rfl ?_
      refine Ops.pure H (X.assign rfl) rfl rfl rfl ?_
      (refine Ops.nil (hK _ _ ?_); clear hK K)
      refine Run.seq ?_
      (refine Run.seq (Run.region ?_); intro K hK)
      refine Ops.pure H (X.move rfl) rfl rfl rfl ?_
      refine Ops.pure H (X.cmp rfl rfl rfl) rfl rfl rfl ?_
      (refine Ops.nil (hK _ _ ?_); clear hK K)
      refine Run.cond_false rfl ?_
      refine Run.skip ?_
      (refine Run.seq (Run.region ?_); intro K hK)
      refine Ops.pure H (X.move rfl) rfl rfl rfl ?_
      refine Ops.pure H (X.len_slice rfl rfl rfl) rfl rfl rfl ?_
      refine Ops.pure H (X.assign rfl) rfl rfl rfl ?_
      (refine Ops.nil (hK _ _ ?_); clear hK K)
      refine Run.seq ?_
      (refine Run.seq (Run.region ?_); intro K hK)
      refine Ops.pure H (X.move rfl) rfl rfl rfl ?_
      refine Ops.pure H (X.move rfl) rfl rfl rfl ?_
      refine Ops.pure H (X.cmp rfl rfl rfl) rfl rfl rfl ?_
      (refine Ops.nil (hK _ _ ?_); clear hK K)
      refine Run.cond_dec rfl (fun h22 => ?x1) (fun h22 => ?y1)
      case' y1 =>
        refine Run.skip ?_
        refine Run.seq ?_
        (refine Run.seq (Run.region ?_); intro K hK)
        refine Ops.pure H (X.move rfl) rfl rfl rfl ?_
        refine Ops.pure H (X.move rfl) rfl rfl rfl ?_
        refine Ops.pure H (X.succ rfl rfl (by omega)) rfl rfl rfl ?_
        refine Ops.pure H (X.move rfl) rfl rfl rfl ?_
        refine Ops.pure H (X.cap_slice rfl rfl rfl) rfl rfl rfl ?_
        refine Ops.pure H (X.cmp rfl rfl rfl) rfl rfl rfl ?_
        (refine Ops.nil (hK _ _ ?_); clear hK K)
        refine Run.cond_dec rfl (fun h31 => ?x2) (fun h31 => ?y2)
        case' y2 =>
          refine Run.skip ?_
          (refine Run.seq (Run.region ?_); intro K hK)
          refine Ops.pure H (X.move rfl) rfl rfl rfl ?_
          refine Ops.pure H (X.move rfl) rfl rfl rfl ?_
          refine Ops.pure H (X.move rfl) rfl rfl rfl ?_
          refine Ops.pure H (X.succ rfl rfl (by omega)) rfl rfl rfl ?_
          refine Ops.pure H (X.slice_h rfl rfl (by omega) rfl rfl rfl) rfl rfl rfl ?_
          refine Ops.pure H (X.assign rfl) rfl rfl rfl ?_
          (refine Ops.nil (hK _ _ ?_); clear hK K)
          refine Run.seq ?_
          (refine Run.seq (Run.region ?_); intro K hK)
          refine Ops.pure H (X.move rfl) rfl rfl rfl ?_
          refine Ops.pure H (X.move rfl) rfl rfl rfl ?_
          refine Ops.pure H (X.move rfl) rfl rfl rfl ?_
          refine Ops.pure H (X.move rfl) rfl rfl rfl ?_
          refine Ops.pure H (X.succ rfl rfl (by omega)) rfl rfl rfl ?_
          refine Ops.pure H (X.slice_l rfl rfl (by omega) rfl rfl rfl rfl) rfl rfl rfl ?_
        case' x2 => exfalso; omega
      case' x1 => exfalso; omega
      rw [if_neg hci]
      refine Ops.pure H (X.overlaps (tS := 59) (tR := 4) (el := 28) rfl Try.func39 (by kernel_rfl) (by kernel_rfl) (by kernel_rfl) (by kernel_rfl) rfl rfl hne (.tail .head) .head hcs0 rfl rfl rfl) rfl rfl rfl ?_
      refine Ops.pure H (X.not rfl) rfl rfl rfl ?_
      (refine Ops.nil (hK _ _ ?_); clear hK K)
      refine Run.cond_true rfl ?_
      refine Run.seq ?_
      (refine Run.draw H [8] [0, 1, 2, 3, 4, 5, 6, 7, 8] ?_; clear H; intro K hK w H)
      refine Draw.take0 rfl (X.move rfl) rfl rfl rfl (by decide +kernel) ?_
      refine Draw.take0 rfl (X.move rfl) rfl rfl rfl (by decide +kernel) ?_
      refine Draw.take0 rfl (X.move rfl) rfl rfl rfl (by decide +kernel) ?_
      refine Draw.take0 rfl (X.succ rfl rfl (by omega)) rfl rfl rfl (by decide +kernel) ?_
      refine Draw.take0 rfl (X.slice_l rfl rfl (by omega) rfl rfl rfl rfl) rfl rfl rfl (by decide +kernel) ?_
      refine Draw.take0 rfl (X.move rfl) rfl rfl rfl (by decide +kernel) ?_
      refine Draw.take0 rfl (X.move rfl) rfl rfl rfl (by decide +kernel) ?_
      refine Draw.take0 rfl (X.slice_l rfl rfl (by omega) rfl rfl rfl rfl) rfl rfl rfl (by decide +kernel) ?_
      rw [if_neg hci, if_neg hci0]
      have hnB : (u64s (xs.drop i)).length = xs.length - i := by simp
      have hCd := hC.sub i (xs.length - i) (by omega)
      have hsrcB : Src w (some ⟨sb, off + i * 1, none⟩) (u64s (xs.drop i)) := Src.row H .head (hCd.cast (by omega) rfl (by rw [← List.map_drop, List.take_of_length_le (by simp)]))
      refine Draw.last rfl rfl (by decide +kernel) (Y.copy (news := u64s (xs.drop i)) (xs.length - i) (by omega) rfl rfl rfl rfl rfl H .head (by simp) (by simp; omega) hsrcB (u64s_one _) rfl ?_)
      intro w H
      (refine Draw2.done (by decide +kernel) (hK _ _ ?_); clear hK K)
      (refine Run.seq (Run.region ?_); intro K hK)
      refine Ops.pure H (X.move rfl) rfl rfl rfl ?_
      refine Ops.pure H (X.move rfl) rfl rfl rfl ?_
      refine Ops.pure H (X.slice_l rfl rfl (by omega) rfl rfl rfl rfl) rfl rfl rfl ?_
      refine Ops.pure H (X.move rfl) rfl rfl rfl ?_
      rw [if_neg hci0]
      refine Ops.eff rfl (Y.copy (news := [Value.int .u64 x]) 1 (by omega) rfl rfl rfl rfl rfl H .head rfl (by simp [putC_length]; omega) (Src.row (m := 1) H (.tail .head) (Cs.take rfl)) (by simp [Value.oneCell']) rfl ?_)
      intro w H
      (refine Ops.nil (hK _ _ (Run.seq (Run.region ?_))); clear hK K; intro K hK)
      refine Ops.pure H (X.move rfl) rfl rfl rfl ?_
      refine Ops.pure H (X.assign rfl) rfl rfl rfl ?_
      (refine Ops.nil (hK _ _ ?_); clear hK K)
      refine Fn.ret1 HF rfl rfl ?_
      refine ⟨sb, [sb], ⟨_, cap, off, _, by rw [hil], by omega, hc2, .inr ⟨rfl, H.pick .head, by rw [putC_length, putC_length]; exact hfit, ?_⟩⟩, .inl rfl, H.fr, hs⟩
      rw [hil]
      have p1 : off + (i + 1) * 1 + (u64s (xs.drop i)).length ≤ cs.length := by rw [hnB]; omega
      have p2 : off + i * 1 + [Value.int .u64 x].length ≤ (putC cs (off + (i + 1) * 1) (u64s (xs.drop i))).length := by rw [putC_length]; simp; omega
      have e1 := ((hC.sub 0 i (by omega)).apart p1 (.inl (by omega))).apart p2 (.inl (by omega))
      have e2 := Cs.put p2
      have e3 := (Cs.put p1).apart p2 (.inr (by simp; omega))
      exact (((e1.cast (Nat.add_zero _) rfl (by simp)).append (vs := u64s (xs.take i)) (e2.cast (by omega) rfl rfl)).append (e3.cast (by simp <;> omega) rfl rfl)).cast rfl (by simp <;> omega) (by simp [insL])
    · have HF := Try.func19; refine Fn.enter Try.func19 Try.ntmps19 rfl rfl rfl ?_
      (refine Run.seq (Run.region ?_); intro K hK)
      refine Ops.pure H (X.assign rfl) rfl rfl rfl ?_
      (refine Ops.nil (hK _ _ (Run.seq (Run.region ?_))); clear hK K; intro K hK)
      refine Ops.pure H (X.move rfl) rfl rfl rfl ?_
      refine Ops.pure H (X.move rfl) rfl rfl rfl ?_
      refine Ops.pure H (X.slice_l rfl rfl (by omega) rfl rfl rfl rfl) rfl rfl rfl ?_
      (refine Ops.nil (hK _ _ (Run.seq (Run.region ?_))); clear hK K; intro K hK)
      refine Ops.pure H (X.move rfl) rfl rfl rfl ?_
      refine Ops.pure H (X.len_slice rfl rfl rfl) rfl rfl rfl ?_
      refine Ops.pure H (X.assign rfl) rfl rfl rfl ?_
      (refine Ops.nil (hK _ _ ?_); clear hK K)
      refine Run.seq ?_
      (refine Run.seq (Run.region ?_); intro K hK)
      refine Ops.pure H (X.move rfl) rfl rfl rfl ?_
      refine Ops.pure H (X.cmp rfl rfl rfl) rfl rfl rfl ?_
      (refine Ops.nil (hK _ _ ?_); clear hK K)
      refine Run.cond_false rfl ?_
      refine Run.skip ?_
      (refine Run.seq (Run.region ?_); intro K hK)
      refine Ops.pure H (X.move rfl) rfl rfl rfl ?_
      refine Ops.pure H (X.len_slice rfl rfl rfl) rfl rfl rfl ?_
      refine Ops.pure H (X.assign rfl) rfl rfl rfl ?_
      (refine Ops.nil (hK _ _ ?_); clear hK K)
      refine Run.seq ?_
      (refine Run.seq (Run.region ?_); intro K hK)
      refine Ops.pure H (X.move rfl) rfl rfl rfl ?_
      refine Ops.pure H (X.move rfl) rfl rfl rfl ?_
      refine Ops.pure H (X.cmp rfl rfl rfl) rfl rfl rfl ?_
      (refine Ops.nil (hK _ _ ?_); clear hK K)
      refine Run.cond_dec rfl (fun h22 => ?x3) (fun h22 => ?y3)
      case' y3 =>
        refine Run.skip ?_
        refine Run.seq ?_
        (refine Run.seq (Run.region ?_); intro K hK)
        refine Ops.pure H (X.move rfl) rfl rfl rfl ?_
        refine Ops.pure H (X.move rfl) rfl rfl rfl ?_
        refine Ops.pure H (X.succ rfl rfl (by omega)) rfl rfl rfl ?_
        refine Ops.pure H (X.move rfl) rfl rfl rfl ?_
        refine Ops.pure H (X.cap_slice rfl rfl rfl) rfl rfl rfl ?_
        refine Ops.pure H (X.cmp rfl rfl rfl) rfl rfl rfl ?_
        (refine Ops.nil (hK _ _ ?_); clear hK K)
        refine Run.cond_dec rfl (fun h31 => ?x4) (fun h31 => ?y4)
        case' y4 => exfalso; omega
        case' x4 =>
          (refine Run.seq (Run.region ?_); intro K hK)
          refine Ops.pure H (X.move rfl) rfl rfl rfl ?_
          refine Ops.pure H (X.move rfl) rfl rfl rfl ?_
          refine Ops.pure H (X.slice_h rfl rfl (by omega) rfl rfl rfl) rfl rfl rfl ?_
          refine Ops.pure H (X.move rfl) rfl rfl rfl ?_
          refine Ops.pure H (X.move rfl) rfl rfl rfl ?_
          refine Ops.pure H (X.succ rfl rfl (by omega)) rfl rfl rfl ?_
          refine Ops.pure H (X.move rfl) rfl rfl rfl ?_
          refine Ops.pure H (X.sub_in rfl rfl (IntWalk.i64_in _ (by omega))) rfl rfl rfl ?_
      case' x3 => exfalso; omega
      rw [show ((xs.length + 1 : Nat) : Int) - (i : Int) = ((xs.length + 1 - i : Nat) : Int) by omega]
      have hCi := hC.sub 0 i (by omega)
      refine Ops.eff rfl (Y.append_zeros (m := xs.length + 1 - i) (olds := u64s (xs.take i)) rfl rfl rfl rfl rfl rfl rfl H (by omega) (Src.row H .head (hCi.cast (Nat.add_zero _) rfl (by simp))) (by simp; omega) rfl (by dsimp only; omega) (by dsimp only; omega) (by omega) rfl ?_)
      intro b9 cap9 news sp w H hb9 hc9 hm9 hnl hsp
      rw [show i + (xs.length + 1 - i) = xs.length + 1 by omega] at hc9 hsp ⊢
      dsimp only at hnl hsp
      have hci : ¬ cap9 = i := by omega
      have hci1 : ¬ cap9 = i + 1 := by omega
      have hci2 : ¬ cap = i := by omega
      have hrl : (u64s (xs.take i) ++ news ++ sp).length = cap9 := by simp; omega
      have e0 : Cs (u64s (xs.take i) ++ news ++ sp) 0 i (u64s (xs.take i)) := ((Cs.mid [] (u64s (xs.take i)) (news ++ sp)).cast rfl (by simp; omega) rfl) |> fun h => by rw [List.append_assoc]; exact h
      generalize u64s (xs.take i) ++ news ++ sp = rs at H hrl e0
      refine Ops.pure H (X.assign rfl) rfl rfl rfl ?_
      (refine Ops.nil (hK _ _ (Run.seq (Run.region ?_))); clear hK K; intro K hK)
      refine Ops.pure H (X.move rfl) rfl rfl rfl ?_
      refine Ops.pure H (X.move rfl) rfl rfl rfl ?_
      refine Ops.pure H (X.slice_l rfl rfl (by omega) rfl rfl rfl rfl) rfl rfl rfl ?_
      refine Ops.pure H (X.move rfl) rfl rfl rfl ?_
      rw [if_neg hci]
      refine Ops.eff rfl (Y.copy (news := [Value.int .u64 x]) 1 (by omega) rfl rfl rfl rfl rfl H .head rfl (by simp; omega) (Src.row (m := 1) H (.tail (.tail .head)) (Cs.take rfl)) (by simp [Value.oneCell']) rfl ?_)
      intro w H
      (refine Ops.nil (hK _ _ ?_); clear hK K)
      refine Run.seq ?_
      (refine Run.draw H [8] [0, 1, 2, 3, 4, 5, 6, 7, 8] ?_; clear H; intro K hK w H)
      refine Draw.take0 rfl (X.move rfl) rfl rfl rfl (by decide +kernel) ?_
      refine Draw.take0 rfl (X.move rfl) rfl rfl rfl (by decide +kernel) ?_
      refine Draw.take0 rfl (X.move rfl) rfl rfl rfl (by decide +kernel) ?_
      refine Draw.take0 rfl (X.succ rfl rfl (by omega)) rfl rfl rfl (by decide +kernel) ?_
      refine Draw.take0 rfl (X.slice_l rfl rfl (by omega) rfl rfl rfl rfl) rfl rfl rfl (by decide +kernel) ?_
      refine Draw.take0 rfl (X.move rfl) rfl rfl rfl (by decide +kernel) ?_
      refine Draw.take0 rfl (X.move rfl) rfl rfl rfl (by decide +kernel) ?_
      refine Draw.take0 rfl (X.slice_l rfl rfl (by omega) rfl rfl rfl rfl) rfl rfl rfl (by decide +kernel) ?_
      rw [if_neg hci1, if_neg hci2]
      have hnB : (u64s (xs.drop i)).length = xs.length - i := by simp
      have hCd := hC.sub i (xs.length - i) (by omega)
      have hsrcB : Src w (some ⟨sb, off + i * 1, none⟩) (u64s (xs.drop i)) := Src.row H (.tail .head) (hCd.cast (by omega) rfl (by rw [← List.map_drop, List.take_of_length_le (by simp)]))
      refine Draw.last rfl rfl (by decide +kernel) (Y.copy (news := u64s (xs.drop i)) (xs.length - i) (by omega) rfl rfl rfl rfl rfl H .head (by simp) (by simp [putC_length]; omega) hsrcB (u64s_one _) rfl ?_)
      intro w H
      (refine Draw2.done (by decide +kernel) (hK _ _ ?_); clear hK K)
      (refine Run.seq (Run.region ?_); intro K hK)
      refine Ops.pure H (X.move rfl) rfl rfl rfl ?_
      refine Ops.pure H (X.assign rfl) rfl rfl rfl ?_
      (refine Ops.nil (hK _ _ ?_); clear hK K)
      refine Fn.ret1 HF rfl rfl ?_
      have p1 : 0 + i * 1 + [Value.int .u64 x].length ≤ rs.length := by simp; omega
      have p2 : 0 + (i + 1) * 1 + (u64s (xs.drop i)).length ≤ (putC rs (0 + i * 1) [Value.int .u64 x]).length := by rw [putC_length, hnB]; omega
      refine ⟨b9, [sb], ⟨_, cap9, 0, _, by rw [hil], by omega, hm9, .inr ⟨rfl, H.pick .head, by rw [putC_length, putC_length]; omega, ?_⟩⟩, .inr hb9, H.fr, hs⟩
      rw [hil]
      have e1 := (e0.apart p1 (.inl (by omega))).apart p2 (.inl (by omega))
      have e2 := (Cs.put p1).apart p2 (.inl (by simp))
      have e3 := Cs.put p2
      exact ((e1.append (e2.cast (by omega) rfl rfl)).append (e3.cast (by simp) rfl rfl)).cast rfl (by simp; omega) (by simp [insL])
end Go.Proofs.Ytaneenahapdabaa
