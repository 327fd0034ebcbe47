/- The library's sort, walked: pdqsort, which calls itself. -/
import Derived.Test.YtaneenahapdabaaSG
import Derived.Test.YtaneenahapdabaaSE
namespace Go.Proofs.Ytaneenahapdabaa
open Go
set_option maxRecDepth 20000
set_option maxHeartbeats 2000000
attribute [local irreducible] Run Ops Fn Draw Draw2 PureOp StepZ

/-- 'Run.meet' where a way may leave further out: what follows is named. -/
theorem Run.meetK {P : Program} {f : FuncId} {R : Ending → World → Prop} {n : Nat} {k : List Item} {l : Sl} {w : World} {c : Code} {ds : List Deferred} {α : Type} (live : α → Sl) (J : α → World → Prop) (h : ∀ x w, J x w → Run P f R n k (live x) w ds)
    (go : (∀ x l w, J x w → Subs l (live x) → Run P f R n k l w ds) → Run P f R n (.code c :: k) l w ds) : Run P f R n (.code c :: k) l w ds := go fun x _ w hj hs => (h x w hj).weak hs
theorem swoU : Sort.SWO ltU := Sort.swo_ltInt
theorem heap_at (z : World) (blk off cap : Nat) (d : Array Int) (cs : List Value) (a b : Nat) {n : Nat} (hn : d.size = n) (h : Ar z blk off d cs) (hab : a < b) (hb : b ≤ n) (hm : n ≤ 2305843009213693951) :
    Fn env.P 67 [.slice (some ⟨blk, off, none⟩) n cap, .int .i64 (a : Nat), .int .i64 (b : Nat)] z fun _ w' => ∃ cs', Ar w' blk off (Sort.heapSort ltU d a b) cs' ∧ Fr z w' [blk] := by subst hn; exact heap_any z blk off cap d cs a b h hab hb hm

theorem pdq_any (blk off cap n : Nat) (hm : n ≤ 2305843009213693951) : ∀ (k : Nat) (z : World) (d : Array Int) (cs : List Value) (a b lim : Nat), b - a = k → d.size = n → Ar z blk off d cs → a ≤ b → b ≤ n → lim ≤ 64 → Sort.Below ltU a b d →
    Fn env.P 64 [.slice (some ⟨blk, off, none⟩) n cap, .int .i64 (a : Nat), .int .i64 (b : Nat), .int .i64 (lim : Nat)] z fun _ w' => ∃ (d' : Array Int) (cs' : List Value), Ar w' blk off d' cs' ∧ Sort.PermIn a b d d' ∧ Sort.SortedIn ltU a b d' ∧ Fr z w' [blk] := by
  intro k
  induction k using Nat.strongRecOn with
  | ind k IHk =>
  intro z d cs a b lim hk hn h hab hb hlim hB
  have H := Holds.start z []
  have HF := Try.func64; refine Fn.enter Try.func64 Try.ntmps64 rfl rfl rfl ?_
  (refine Run.seq (Run.region ?_); intro K hK)
  refine Ops.pure H (X.assign rfl) rfl rfl rfl ?_
  (refine Ops.nil (hK _ _ (Run.seq (Run.region ?_))); clear hK K; intro K hK)
  refine Ops.pure H (X.assign rfl) rfl rfl rfl ?_
  (refine Ops.nil (hK _ _ ?_); clear hK K)
  refine Run.block ?_
  refine Run.rounds (fun (x : Nat × Nat × Nat × Bool × Bool) => [(0, .slice (some ⟨blk, off, none⟩) n cap), (1, .int .i64 (x.1 : Nat)), (2, .int .i64 (x.2.1 : Nat)), (3, .int .i64 (x.2.2.1 : Nat)), (8, .bool x.2.2.2.1), (9, .bool x.2.2.2.2)])
    (fun x w' => a ≤ x.1 ∧ x.1 ≤ x.2.1 ∧ x.2.1 ≤ b ∧ x.2.2.1 ≤ 64 ∧ ∃ (d' : Array Int) (cs' : List Value), d'.size = n ∧ Ar w' blk off d' cs' ∧ Sort.Below ltU x.1 x.2.1 d' ∧ (∀ R, Sort.PermIn x.1 x.2.1 d' R → Sort.SortedIn ltU x.1 x.2.1 R → Sort.PermIn a b d R ∧ Sort.SortedIn ltU a b R) ∧ Fr z w' [blk]) (fun x => x.2.1 - x.1) (a, b, lim, true, true) (by repeat (first | exact trivial | refine ⟨rfl, ?_⟩))
    ⟨by dsimp only; omega, by dsimp only; omega, by dsimp only; omega, by dsimp only; omega, d, cs, hn, h.ext H.fr, hB, fun R h1 h2 => ⟨h1, h2⟩, H.fr.trans (U := [blk]) (Fr.refl _ []) (by simp) (by simp)⟩ ?_
  clear H
  rintro ⟨a1, b1, l1, wb, wp⟩ w1 ⟨ha1, hab1, hb1, hl1, d1, cs1, hs1, h1, B1, G1, hf1⟩ IH
  dsimp only at ha1 hab1 hb1 hl1 B1 G1 IH ⊢
  by_cases h12 : b1 - a1 ≤ 12
  · have H := Holds.start w1 []
    refine Run.block ?_
    (refine Run.seq (Run.region ?_); intro K hK)
    refine Ops.pure H (X.move rfl) rfl rfl rfl ?_
    refine Ops.pure H (X.move rfl) rfl rfl rfl ?_
    refine Ops.pure H (X.subN rfl rfl rfl rfl (by omega) (IntWalk.i64_in _ (by omega))) rfl rfl rfl ?_
    refine Ops.pure H (X.assign rfl) rfl rfl rfl ?_
    (refine Ops.nil (hK _ _ ?_); clear hK K)
    refine Run.seq ?_
    (refine Run.seq (Run.region ?_); intro K hK)
    refine Ops.pure H (X.move rfl) rfl rfl rfl ?_
    refine Ops.pure H (X.cmp rfl rfl rfl) rfl rfl rfl ?_
    (refine Ops.nil (hK _ _ ?_); clear hK K)
    refine Run.cond_dec rfl (fun h23 => ?x0) (fun h23 => ?y0)
    case' y0 => exfalso; omega
    case' x0 =>
      (refine Run.seq (Run.region ?_); intro K hK)
      refine Ops.pure H (X.move rfl) rfl rfl rfl ?_
      refine Ops.pure H (X.move rfl) rfl rfl rfl ?_
      refine Ops.pure H (X.move rfl) rfl rfl rfl ?_
    refine Ops.eff rfl (Y.call rfl rfl (by first | assumption | decide +kernel) rfl (ins_at _ blk off cap d1 cs1 a1 b1 hs1 (h1.ext H.fr) hab1 (by omega) (by omega)) rfl ?_)
    rintro v w2 ⟨cs2, h2, hf2⟩
    have F2 := hf1.trans (U := [blk]) (H.fr.trans (U := [blk]) hf2 (by simp) (by simp)) (by simp) (by simp)
    clear H
    have H := Holds.start w2 []
    (refine Ops.nil (hK _ _ ?_); clear hK K)
    (first | refine Fn.ret0 HF rfl ?_ | refine Fn.fin0 HF rfl ?_)
    obtain ⟨q1, q2⟩ := Sort.insertionSort_holds swoU d1 a1 b1 hab1 (by omega)
    obtain ⟨q3, q4⟩ := G1 _ q1 q2
    exact ⟨_, _, h2.ext H.fr, q3, q4, F2.trans H.fr (by simp) (by simp)⟩
  by_cases hl0 : l1 = 0
  · have H := Holds.start w1 []
    refine Run.block ?_
    (refine Run.seq (Run.region ?_); intro K hK)
    refine Ops.pure H (X.move rfl) rfl rfl rfl ?_
    refine Ops.pure H (X.move rfl) rfl rfl rfl ?_
    refine Ops.pure H (X.subN rfl rfl rfl rfl (by omega) (IntWalk.i64_in _ (by omega))) rfl rfl rfl ?_
    refine Ops.pure H (X.assign rfl) rfl rfl rfl ?_
    (refine Ops.nil (hK _ _ ?_); clear hK K)
    refine Run.seq ?_
    (refine Run.seq (Run.region ?_); intro K hK)
    refine Ops.pure H (X.move rfl) rfl rfl rfl ?_
    refine Ops.pure H (X.cmp rfl rfl rfl) rfl rfl rfl ?_
    (refine Ops.nil (hK _ _ ?_); clear hK K)
    refine Run.cond_dec rfl (fun h23 => ?x1) (fun h23 => ?y1)
    case' y1 =>
      refine Run.skip ?_
      refine Run.seq ?_
      (refine Run.seq (Run.region ?_); intro K hK)
      refine Ops.pure H (X.move rfl) rfl rfl rfl ?_
      refine Ops.pure H (X.cmp rfl rfl rfl) rfl rfl rfl ?_
      (refine Ops.nil (hK _ _ ?_); clear hK K)
      refine Run.cond_dec rfl (fun h29 => ?x2) (fun h29 => ?y2)
      case' y2 => exfalso; omega
      case' x2 =>
        (refine Run.seq (Run.region ?_); intro K hK)
        refine Ops.pure H (X.move rfl) rfl rfl rfl ?_
        refine Ops.pure H (X.move rfl) rfl rfl rfl ?_
        refine Ops.pure H (X.move rfl) rfl rfl rfl ?_
    case' x1 => exfalso; omega
    refine Ops.eff rfl (Y.call rfl rfl (by first | assumption | decide +kernel) rfl (heap_at _ blk off cap d1 cs1 a1 b1 hs1 (h1.ext H.fr) (by omega) (by omega) (by omega)) rfl ?_)
    rintro v w2 ⟨cs2, h2, hf2⟩
    have F2 := hf1.trans (U := [blk]) (H.fr.trans (U := [blk]) hf2 (by simp) (by simp)) (by simp) (by simp)
    clear H
    have H := Holds.start w2 []
    (refine Ops.nil (hK _ _ ?_); clear hK K)
    (first | refine Fn.ret0 HF rfl ?_ | refine Fn.fin0 HF rfl ?_)
    obtain ⟨q1, q2⟩ := Sort.heapSort_holds swoU d1 a1 b1 hab1 (by omega)
    obtain ⟨q3, q4⟩ := G1 _ q1 q2
    exact ⟨_, _, h2.ext H.fr, q3, q4, F2.trans H.fr (by simp) (by simp)⟩
  have H := Holds.start w1 []
  refine Run.block ?_
  (refine Run.seq (Run.region ?_); intro K hK)
  refine Ops.pure H (X.move rfl) rfl rfl rfl ?_
  refine Ops.pure H (X.move rfl) rfl rfl rfl ?_
  refine Ops.pure H (X.subN rfl rfl rfl rfl (by omega) (IntWalk.i64_in _ (by omega))) rfl rfl rfl ?_
  refine Ops.pure H (X.assign rfl) rfl rfl rfl ?_
  (refine Ops.nil (hK _ _ ?_); clear hK K)
  refine Run.seq ?_
  (refine Run.seq (Run.region ?_); intro K hK)
  refine Ops.pure H (X.move rfl) rfl rfl rfl ?_
  refine Ops.pure H (X.cmp rfl rfl rfl) rfl rfl rfl ?_
  (refine Ops.nil (hK _ _ ?_); clear hK K)
  refine Run.cond_dec rfl (fun h23 => ?x3) (fun h23 => ?y3)
  case' y3 =>
    refine Run.skip ?_
    refine Run.seq ?_
    (refine Run.seq (Run.region ?_); intro K hK)
    refine Ops.pure H (X.move rfl) rfl rfl rfl ?_
    refine Ops.pure H (X.cmp rfl rfl rfl) rfl rfl rfl ?_
    (refine Ops.nil (hK _ _ ?_); clear hK K)
    refine Run.cond_dec rfl (fun h29 => ?x4) (fun h29 => ?y4)
    case' y4 =>
      refine Run.skip ?_
    case' x4 => exfalso; omega
  case' x3 => exfalso; omega
  refine Run.seq ?_
  refine Run.meet (fun (l2 : Nat) => [(0, .slice (some ⟨blk, off, none⟩) n cap), (1, .int .i64 (a1 : Nat)), (2, .int .i64 (b1 : Nat)), (3, .int .i64 (l2 : Nat)), (8, .bool wb), (9, .bool wp), (10, .int .i64 ((b1 - a1 : Nat) : Nat))])
    (fun l2 w' => l2 ≤ 64 ∧ ∃ (d' : Array Int) (cs' : List Value), Ar w' blk off d' cs' ∧ Sort.PermIn a1 b1 d1 d' ∧ Fr z w' [blk]) ?_ ?_
  rotate_left
  · intro kk go
    cases wb with
    | true =>
      (refine Run.seq (Run.region ?_); intro K hK)
      refine Ops.pure H (X.move rfl) rfl rfl rfl ?_
      refine Ops.pure H (X.not rfl) rfl rfl rfl ?_
      (refine Ops.nil (hK _ _ ?_); clear hK K)
      refine Run.cond_false rfl ?_
      refine Run.skip ?_
      exact go l1 _ _ ⟨by omega, _, _, h1.ext H.fr, Sort.permIn_refl _ _ _, hf1.trans H.fr (by simp) (by simp)⟩ (by repeat (first | exact trivial | refine ⟨rfl, ?_⟩))
    | false =>
      (refine Run.seq (Run.region ?_); intro K hK)
      refine Ops.pure H (X.move rfl) rfl rfl rfl ?_
      refine Ops.pure H (X.not rfl) rfl rfl rfl ?_
      (refine Ops.nil (hK _ _ ?_); clear hK K)
      refine Run.cond_true rfl ?_
      (refine Run.seq (Run.region ?_); intro K hK)
      refine Ops.pure H (X.move rfl) rfl rfl rfl ?_
      refine Ops.pure H (X.move rfl) rfl rfl rfl ?_
      refine Ops.pure H (X.move rfl) rfl rfl rfl ?_
      refine Ops.eff rfl (Y.call rfl rfl (by first | assumption | decide +kernel) rfl (brk_any _ blk off cap d1 cs1 a1 b1 hs1 (h1.ext H.fr) (by omega) (by omega) (by omega)) rfl ?_)
      rintro v w2 ⟨d2, cs2, h2, _, hp2, hf2⟩
      have F2 := hf1.trans (U := [blk]) (H.fr.trans (U := [blk]) hf2 (by simp) (by simp)) (by simp) (by simp)
      clear H
      have H := Holds.start w2 []
      (refine Ops.nil (hK _ _ ?_); clear hK K)
      (refine Run.region ?_; intro K hK)
      refine Ops.pure H (X.move rfl) rfl rfl rfl ?_
      refine Ops.pure H (X.subN (j := 1) rfl rfl rfl rfl (by omega) (IntWalk.i64_in _ (by omega))) rfl rfl rfl ?_
      refine Ops.pure H (X.assign rfl) rfl rfl rfl ?_
      (refine Ops.nil (hK _ _ ?_); clear hK K)
      exact go (l1 - 1) _ _ ⟨by omega, _, _, h2.ext H.fr, hp2, F2.trans H.fr (by simp) (by simp)⟩ (by repeat (first | exact trivial | refine ⟨rfl, ?_⟩))
  clear H
  rintro l2 w2 ⟨hl2, d2, cs2, h2, hp2, hf2⟩
  have hs2 : d2.size = n := by rw [hp2.1]; exact hs1
  have H := Holds.start w2 []
  (refine Run.seq (Run.region ?_); intro K hK)
  refine Ops.pure H (X.move rfl) rfl rfl rfl ?_
  refine Ops.pure H (X.move rfl) rfl rfl rfl ?_
  refine Ops.pure H (X.move rfl) rfl rfl rfl ?_
  refine Ops.eff rfl (Y.call rfl rfl (by first | assumption | decide +kernel) rfl (pivot_any _ blk off cap d2 cs2 a1 b1 hs2 (h2.ext H.fr) (by omega) (by omega) (by omega)) rfl ?_)
  rintro v w3 ⟨p3, e3, rfl, hp31, hp32, he3, hf3⟩
  have h3 := h2.ext (H.fr.then hf3)
  have F3 := hf2.trans (U := [blk]) (H.fr.then hf3) (by simp) (by simp)
  clear H
  have H := Holds.start w3 []
  refine Ops.pure H (X.move rfl) rfl rfl rfl ?_
  refine Ops.pure H (X.extract rfl rfl) rfl rfl rfl ?_
  refine Ops.pure H (X.extract rfl rfl) rfl rfl rfl ?_
  refine Ops.pure H (X.assign rfl) rfl rfl rfl ?_
  refine Ops.pure H (X.assign rfl) rfl rfl rfl ?_
  (refine Ops.nil (hK _ _ ?_); clear hK K)
  refine Run.seq ?_
  refine Run.meet (fun (x : Nat × Nat) => [(0, .slice (some ⟨blk, off, none⟩) n cap), (1, .int .i64 (a1 : Nat)), (2, .int .i64 (b1 : Nat)), (3, .int .i64 (l2 : Nat)), (8, .bool wb), (9, .bool wp), (10, .int .i64 ((b1 - a1 : Nat) : Nat)), (11, .int .i64 (x.1 : Nat)), (12, .int .i64 (x.2 : Nat))])
    (fun x w' => a1 ≤ x.1 ∧ x.1 < b1 ∧ x.2 ≤ 2 ∧ ∃ (d' : Array Int) (cs' : List Value), Ar w' blk off d' cs' ∧ Sort.PermIn a1 b1 d1 d' ∧ Fr z w' [blk]) ?_ ?_
  rotate_left
  · intro kk go
    by_cases he2 : e3 = 2
    · refine Run.seq ?_
      (refine Run.region ?_; intro K hK)
      refine Ops.pure H (X.move rfl) rfl rfl rfl ?_
      refine Ops.pure H (X.cmp rfl rfl rfl) rfl rfl rfl ?_
      (refine Ops.nil (hK _ _ ?_); clear hK K)
      refine Run.cond_dec rfl (fun h50 => ?x5) (fun h50 => ?y5)
      case' y5 => exfalso; omega
      case' x5 =>
        (refine Run.seq (Run.region ?_); intro K hK)
        refine Ops.pure H (X.move rfl) rfl rfl rfl ?_
        refine Ops.pure H (X.move rfl) rfl rfl rfl ?_
        refine Ops.pure H (X.move rfl) rfl rfl rfl ?_
      refine Ops.eff rfl (Y.call rfl rfl (by first | assumption | decide +kernel) rfl (rev_any _ blk off cap d2 cs2 a1 b1 hs2 (h3.ext H.fr) (by omega) (by omega) (by omega)) rfl ?_)
      rintro v w4 ⟨cs4, h4, hf4⟩
      have F4 := F3.trans (U := [blk]) (H.fr.trans (U := [blk]) hf4 (by simp) (by simp)) (by simp) (by simp)
      clear H
      have H := Holds.start w4 []
      (refine Ops.nil (hK _ _ (Run.seq (Run.region ?_))); clear hK K; intro K hK)
      refine Ops.pure H (X.move rfl) rfl rfl rfl ?_
      refine Ops.pure H (X.subN (j := 1) rfl rfl rfl rfl (by omega) (IntWalk.i64_in _ (by omega))) rfl rfl rfl ?_
      refine Ops.pure H (X.move rfl) rfl rfl rfl ?_
      refine Ops.pure H (X.move rfl) rfl rfl rfl ?_
      refine Ops.pure H (X.subN rfl rfl rfl rfl (by omega) (IntWalk.i64_in _ (by omega))) rfl rfl rfl ?_
      refine Ops.pure H (X.subN rfl rfl rfl rfl (by omega) (IntWalk.i64_in _ (by omega))) rfl rfl rfl ?_
      refine Ops.pure H (X.assign rfl) rfl rfl rfl ?_
      (refine Ops.nil (hK _ _ ?_); clear hK K)
      (refine Run.region ?_; intro K hK)
      refine Ops.pure H (X.assign rfl) rfl rfl rfl ?_
      (refine Ops.nil (hK _ _ ?_); clear hK K)
      exact go (b1 - 1 - (p3 - a1), 1) _ _ ⟨by dsimp only; omega, by dsimp only; omega, by dsimp only; omega, _, _, h4.ext H.fr, Sort.permIn_trans _ _ _ _ _ hp2 (Sort.reverseRange_holds d2 a1 b1 (by omega) (by omega)), F4.trans H.fr (by simp) (by simp)⟩ (by repeat (first | exact trivial | refine ⟨rfl, ?_⟩))
    · refine Run.seq ?_
      (refine Run.region ?_; intro K hK)
      refine Ops.pure H (X.move rfl) rfl rfl rfl ?_
      refine Ops.pure H (X.cmp rfl rfl rfl) rfl rfl rfl ?_
      (refine Ops.nil (hK _ _ ?_); clear hK K)
      refine Run.cond_dec rfl (fun h50 => ?x6) (fun h50 => ?y6)
      case' y6 =>
        refine Run.skip ?_
      case' x6 => exfalso; omega
      exact go (p3, e3) _ _ ⟨by dsimp only; omega, by dsimp only; omega, by dsimp only; omega, _, _, h3.ext H.fr, hp2, F3.trans H.fr (by simp) (by simp)⟩ (by repeat (first | exact trivial | refine ⟨rfl, ?_⟩))
  clear H F3 h3 hf3
  rintro ⟨p, e⟩ w4 ⟨hpa, hpb, he2, d4, cs4, h4, hp4, hf4⟩
  dsimp only at hpa hpb he2 ⊢
  have hs4 : d4.size = n := by rw [hp4.1]; exact hs1
  have B4 : Sort.Below ltU a1 b1 d4 := B1.perm (by omega) hp4
  refine Run.seq ?_
  refine Run.meet (fun (_ : Unit) => [(0, .slice (some ⟨blk, off, none⟩) n cap), (1, .int .i64 (a1 : Nat)), (2, .int .i64 (b1 : Nat)), (3, .int .i64 (l2 : Nat)), (8, .bool wb), (9, .bool wp), (10, .int .i64 ((b1 - a1 : Nat) : Nat)), (11, .int .i64 (p : Nat))])
    (fun _ w' => ∃ (d' : Array Int) (cs' : List Value), Ar w' blk off d' cs' ∧ Sort.PermIn a1 b1 d1 d' ∧ Fr z w' [blk]) ?_ ?_
  rotate_left
  · intro kk go
    by_cases hgo : (wb && wp && decide (e = 1)) = true
    · simp only [Bool.and_eq_true, decide_eq_true_eq] at hgo
      obtain ⟨⟨rfl, rfl⟩, rfl⟩ := hgo
      have H := Holds.start w4 []
      (refine Run.seq (Run.region ?_); intro K hK)
      refine Ops.pure H (X.move rfl) rfl rfl rfl ?_
      refine Ops.pure H (X.move rfl) rfl rfl rfl ?_
      refine Ops.pure H (X.move rfl) rfl rfl rfl ?_
      refine Ops.pure H (X.pick_t rfl rfl) rfl rfl rfl ?_
      refine Ops.pure H (X.move rfl) rfl rfl rfl ?_
      refine Ops.pure H (X.move rfl) rfl rfl rfl ?_
      refine Ops.pure H (X.cmp rfl rfl rfl) rfl rfl rfl ?_
      refine Ops.pure H (X.pick_t rfl rfl) rfl rfl rfl ?_
      (refine Ops.nil (hK _ _ ?_); clear hK K)
      refine Run.cond_true rfl ?_
      (refine Run.seq (Run.region ?_); intro K hK)
      refine Ops.pure H (X.move rfl) rfl rfl rfl ?_
      refine Ops.pure H (X.move rfl) rfl rfl rfl ?_
      refine Ops.pure H (X.move rfl) rfl rfl rfl ?_
      refine Ops.eff rfl (Y.call rfl rfl (by first | assumption | decide +kernel) rfl (pins_any _ blk off cap d4 cs4 a1 b1 hs4 (h4.ext H.fr) (by omega) (by omega) (by omega)) rfl ?_)
      rintro v w5 ⟨rfl, cs5, h5, hf5⟩
      have F5 := hf4.trans (U := [blk]) (H.fr.trans (U := [blk]) hf5 (by simp) (by simp)) (by simp) (by simp)
      obtain ⟨q1, q2⟩ := Sort.partialInsertionSort_holds swoU d4 a1 b1 (by omega) (by omega) B4
      obtain ⟨D5, hD5⟩ : ∃ D, D = Sort.partialInsertionSort ltU d4 a1 b1 := ⟨_, rfl⟩
      rw [← hD5] at h5 q1 q2 ⊢
      clear H
      have H := Holds.start w5 []
      by_cases ht : D5.2 = true
      · rw [ht]
        (refine Ops.nil (hK _ _ ?_); clear hK K)
        refine Run.cond_true rfl ?_
        (first | refine Fn.ret0 HF rfl ?_ | refine Fn.fin0 HF rfl ?_)
        obtain ⟨q3, q4⟩ := G1 _ (Sort.permIn_trans _ _ _ _ _ hp4 q1) (q2 ht)
        exact ⟨_, _, h5.ext H.fr, q3, q4, F5.trans H.fr (by simp) (by simp)⟩
      · rw [Bool.not_eq_true] at ht
        rw [ht]
        (refine Ops.nil (hK _ _ ?_); clear hK K)
        refine Run.cond_false rfl ?_
        refine Run.skip ?_
        exact go () _ _ ⟨_, _, h5.ext H.fr, Sort.permIn_trans _ _ _ _ _ hp4 q1, F5.trans H.fr (by simp) (by simp)⟩ (by repeat (first | exact trivial | refine ⟨rfl, ?_⟩))
    · have H := Holds.start w4 []
      cases wb with
      | false =>
        (refine Run.seq (Run.region ?_); intro K hK)
        refine Ops.pure H (X.move rfl) rfl rfl rfl ?_
        refine Ops.pure H (X.move rfl) rfl rfl rfl ?_
        refine Ops.pass rfl rfl rfl ?_
        refine Ops.pure H (X.pick_f rfl rfl) rfl rfl rfl ?_
        refine Ops.pure H (X.move rfl) rfl rfl rfl ?_
        refine Ops.pass rfl rfl rfl ?_
        refine Ops.pass rfl rfl rfl ?_
        refine Ops.pure H (X.pick_f rfl rfl) rfl rfl rfl ?_
        (refine Ops.nil (hK _ _ ?_); clear hK K)
        refine Run.cond_false rfl ?_
        refine Run.skip ?_
        exact go () _ _ ⟨_, _, h4.ext H.fr, hp4, hf4.trans H.fr (by simp) (by simp)⟩ (by repeat (first | exact trivial | refine ⟨rfl, ?_⟩))
      | true =>
        cases wp with
        | false =>
          (refine Run.seq (Run.region ?_); intro K hK)
          refine Ops.pure H (X.move rfl) rfl rfl rfl ?_
          refine Ops.pure H (X.move rfl) rfl rfl rfl ?_
          refine Ops.pure H (X.move rfl) rfl rfl rfl ?_
          refine Ops.pure H (X.pick_t rfl rfl) rfl rfl rfl ?_
          refine Ops.pure H (X.move rfl) rfl rfl rfl ?_
          refine Ops.pass rfl rfl rfl ?_
          refine Ops.pass rfl rfl rfl ?_
          refine Ops.pure H (X.pick_f rfl rfl) rfl rfl rfl ?_
          (refine Ops.nil (hK _ _ ?_); clear hK K)
          refine Run.cond_false rfl ?_
          refine Run.skip ?_
          exact go () _ _ ⟨_, _, h4.ext H.fr, hp4, hf4.trans H.fr (by simp) (by simp)⟩ (by repeat (first | exact trivial | refine ⟨rfl, ?_⟩))
        | true =>
          have he1 : e ≠ 1 := by simpa using hgo
          (refine Run.seq (Run.region ?_); intro K hK)
          refine Ops.pure H (X.move rfl) rfl rfl rfl ?_
          refine Ops.pure H (X.move rfl) rfl rfl rfl ?_
          refine Ops.pure H (X.move rfl) rfl rfl rfl ?_
          refine Ops.pure H (X.pick_t rfl rfl) rfl rfl rfl ?_
          refine Ops.pure H (X.move rfl) rfl rfl rfl ?_
          refine Ops.pure H (X.move rfl) rfl rfl rfl ?_
          refine Ops.pure H (X.cmp rfl rfl rfl) rfl rfl rfl ?_
          refine Ops.pure H (X.pick_t rfl rfl) rfl rfl rfl ?_
          (refine Ops.nil (hK _ _ ?_); clear hK K)
          refine Run.cond_dec rfl (fun h68 => ?x7) (fun h68 => ?y7)
          case' y7 =>
            refine Run.skip ?_
          case' x7 => exfalso; omega
          exact go () _ _ ⟨_, _, h4.ext H.fr, hp4, hf4.trans H.fr (by simp) (by simp)⟩ (by repeat (first | exact trivial | refine ⟨rfl, ?_⟩))
  clear h4 hs4 B4 hp4 hf4
  rintro _ w5 ⟨d5, cs5, h5, hp5, hf5⟩
  have hs5 : d5.size = n := by rw [hp5.1]; exact hs1
  have B5 : Sort.Below ltU a1 b1 d5 := B1.perm (by omega) hp5
  have G5 : ∀ R, Sort.PermIn a1 b1 d5 R → Sort.SortedIn ltU a1 b1 R → Sort.PermIn a b d R ∧ Sort.SortedIn ltU a b R := fun R h1 h2 => G1 R (Sort.permIn_trans _ _ _ _ _ hp5 h1) h2
  refine Run.seq ?_
  refine Run.meetK (fun (_ : Unit) => [(0, .slice (some ⟨blk, off, none⟩) n cap), (1, .int .i64 (a1 : Nat)), (2, .int .i64 (b1 : Nat)), (3, .int .i64 (l2 : Nat)), (8, .bool wb), (9, .bool wp), (10, .int .i64 ((b1 - a1 : Nat) : Nat)), (11, .int .i64 (p : Nat))])
    (fun _ w' => Ar w' blk off d5 cs5 ∧ Fr z w' [blk]) ?_ ?_
  rotate_left
  · intro go
    have c2 := h5.hc p (by omega)
    have hl5 := h5.hl
    by_cases ha0 : 0 < a1
    · have c1 := h5.hc (a1 - 1) (by omega)
      have H := (Holds.start w5 [blk]).add true h5.hb (by simp) (by simp)
      refine Run.seq ?_
      (refine Run.draw H [12] [0, 1, 2, 3, 4, 5, 6, 7, 8, 9, 10, 11, 12, 13, 14] ?_; clear H; intro K hK w H)
      refine Draw.take0 rfl (X.move rfl) rfl rfl rfl (by decide +kernel) ?_
      refine Draw.take0 rfl (X.cmp rfl rfl rfl) rfl rfl rfl (by decide +kernel) ?_
      refine Draw.take0 rfl (X.move rfl) rfl rfl rfl (by decide +kernel) ?_
      refine Draw.split_dec rfl rfl rfl (fun h76 => ?x8) (fun h76 => ?y8)
      case' y8 => exfalso; omega
      case' x8 =>
        refine Draw.take0 rfl (X.move rfl) rfl rfl rfl (by decide +kernel) ?_
        refine Draw.take0 rfl (X.move rfl) rfl rfl rfl (by decide +kernel) ?_
        refine Draw.take0 rfl (X.subN (j := 1) rfl rfl rfl rfl (by omega) (IntWalk.i64_in _ (by omega))) rfl rfl rfl (by decide +kernel) ?_
        refine Draw.take0 rfl (X.indexAddr rfl rfl (by omega) rfl rfl rfl rfl) rfl rfl rfl (by decide +kernel) ?_
        refine Draw.take rfl (X.load1 rfl rfl rfl rfl Pick.head (by assumption)) rfl rfl rfl (by decide +kernel) ?_
        refine Draw.take0 rfl (X.move rfl) rfl rfl rfl (by decide +kernel) ?_
        refine Draw.take0 rfl (X.move rfl) rfl rfl rfl (by decide +kernel) ?_
        refine Draw.take0 rfl (X.indexAddr rfl rfl (by omega) rfl rfl rfl rfl) rfl rfl rfl (by decide +kernel) ?_
        refine Draw.take rfl (X.load1 rfl rfl rfl rfl Pick.head (by assumption)) rfl rfl rfl (by decide +kernel) ?_
      refine Draw.last rfl rfl (by decide +kernel) (Y.call rfl rfl (by first | assumption | decide +kernel) rfl (less_any _ d5[a1 - 1]! d5[p]!) rfl ?_)
      rintro v w6 ⟨rfl, rfl⟩
      by_cases hlt : d5[a1 - 1]! < d5[p]!
      · refine Draw2.take rfl (X.not rfl) rfl rfl rfl (by decide +kernel) ?_
        refine Draw2.take rfl (X.pick_t rfl rfl) rfl rfl rfl (by decide +kernel) ?_
        (refine Draw2.done (by decide +kernel) (hK _ _ ?_); clear hK K)
        refine Run.cond_ndec rfl (fun h87 => ?x9) (fun h87 => ?y9)
        case' y9 =>
          refine Run.skip ?_
        case' x9 => exfalso; omega
        exact go () _ _ ⟨h5.keepH H.fr (H.pick .head), hf5.trans H.fr (by simp) (by simp)⟩ (by repeat (first | exact trivial | refine ⟨rfl, ?_⟩))
      · refine Draw2.take rfl (X.not rfl) rfl rfl rfl (by decide +kernel) ?_
        refine Draw2.take rfl (X.pick_t rfl rfl) rfl rfl rfl (by decide +kernel) ?_
        (refine Draw2.done (by decide +kernel) (hK _ _ ?_); clear hK K)
        refine Run.cond_ndec rfl (fun h87 => ?x10) (fun h87 => ?y10)
        case' y10 => exfalso; omega
        case' x10 =>
          (refine Run.seq (Run.region ?_); intro K hK)
          refine Ops.pure H (X.move rfl) rfl rfl rfl ?_
          refine Ops.pure H (X.move rfl) rfl rfl rfl ?_
          refine Ops.pure H (X.move rfl) rfl rfl rfl ?_
          refine Ops.pure H (X.move rfl) rfl rfl rfl ?_
        refine Ops.eff rfl (Y.call rfl rfl (by first | assumption | decide +kernel) rfl (parteq_any _ blk off cap d5 _ a1 b1 p hs5 (h5.keepH H.fr (H.pick .head)) (by omega) (by omega) (by omega) (by omega)) rfl ?_)
        rintro v w7 ⟨rfl, cs7, h7, hf7⟩
        have F7 := hf5.trans (U := [blk]) (H.fr.trans (U := [blk]) hf7 (by simp) (by simp)) (by simp) (by simp)
        obtain ⟨D7, hD7⟩ : ∃ D, D = Sort.partitionEqual ltU d5 a1 b1 p := ⟨_, rfl⟩
        obtain ⟨g1, g2, hs7, B7, G7⟩ := Sort.round_eq swoU (Sort.partitionEqual_holds ltU) ha0 hpa hpb (by omega) B5 (by simp [ltU]; omega) (show Sort.partitionEqual ltU d5 a1 b1 p = (D7.1, D7.2) from hD7.symm)
        rw [← hD7] at h7 ⊢
        clear H
        have H := Holds.start w7 []
        refine Ops.pure H (X.assign rfl) rfl rfl rfl ?_
        (refine Ops.nil (hK _ _ (Run.seq (Run.region ?_))); clear hK K; intro K hK)
        refine Ops.pure H (X.move rfl) rfl rfl rfl ?_
        refine Ops.pure H (X.assign rfl) rfl rfl rfl ?_
        (refine Ops.nil (hK _ _ ?_); clear hK K)
        refine Run.exit rfl ?_
        exact (IH (D7.1, b1, l2, wb, wp) _ (by dsimp only; omega) ⟨by dsimp only; omega, by dsimp only; omega, by dsimp only; omega, by dsimp only; omega, D7.2, _, by rw [hs7]; exact hs5, h7.ext H.fr, B7, fun R r1 r2 => (fun q => G5 R q.1 q.2) (G7 R r1 r2), F7.trans H.fr (by simp) (by simp)⟩).weak (by repeat (first | exact trivial | refine ⟨rfl, ?_⟩))
    · have H := (Holds.start w5 [blk]).add true h5.hb (by simp) (by simp)
      refine Run.seq ?_
      (refine Run.draw H [12] [0, 1, 2, 3, 4, 5, 6, 7, 8, 9, 10, 11, 12, 13, 14] ?_; clear H; intro K hK w H)
      refine Draw.take0 rfl (X.move rfl) rfl rfl rfl (by decide +kernel) ?_
      refine Draw.take0 rfl (X.cmp rfl rfl rfl) rfl rfl rfl (by decide +kernel) ?_
      refine Draw.take0 rfl (X.move rfl) rfl rfl rfl (by decide +kernel) ?_
      refine Draw.split_dec rfl rfl rfl (fun h76 => ?x11) (fun h76 => ?y11)
      case' y11 =>
        refine Draw.pass rfl rfl rfl rfl (by decide +kernel) ?_
        refine Draw.pass rfl rfl rfl rfl (by decide +kernel) ?_
        refine Draw.pass rfl rfl rfl rfl (by decide +kernel) ?_
        refine Draw.pass rfl rfl rfl rfl (by decide +kernel) ?_
        refine Draw.pass rfl rfl rfl rfl (by decide +kernel) ?_
        refine Draw.pass rfl rfl rfl rfl (by decide +kernel) ?_
        refine Draw.pass rfl rfl rfl rfl (by decide +kernel) ?_
        refine Draw.pass rfl rfl rfl rfl (by decide +kernel) ?_
        refine Draw.pass rfl rfl rfl rfl (by decide +kernel) ?_
        refine Draw.passL rfl rfl rfl rfl (by decide +kernel) ?_
        refine Draw2.passE rfl rfl rfl rfl (by decide +kernel) ?_
        refine Draw2.take rfl (X.pick_f rfl rfl) rfl rfl rfl (by decide +kernel) ?_
        (refine Draw2.done (by decide +kernel) (hK _ _ ?_); clear hK K)
        refine Run.cond_false rfl ?_
        refine Run.skip ?_
      case' x11 => exfalso; omega
      exact go () _ _ ⟨h5.keepH H.fr (H.pick .head), hf5.trans H.fr (by simp) (by simp)⟩ (by repeat (first | exact trivial | refine ⟨rfl, ?_⟩))
  clear h5 hf5
  rintro _ w6 ⟨h6, hf6⟩
  have H := Holds.start w6 []
  (refine Run.seq (Run.region ?_); intro K hK)
  refine Ops.pure H (X.move rfl) rfl rfl rfl ?_
  refine Ops.pure H (X.move rfl) rfl rfl rfl ?_
  refine Ops.pure H (X.move rfl) rfl rfl rfl ?_
  refine Ops.pure H (X.move rfl) rfl rfl rfl ?_
  refine Ops.eff rfl (Y.call rfl rfl (by first | assumption | decide +kernel) rfl (part_any _ blk off cap d5 cs5 a1 b1 p hs5 (h6.ext H.fr) (by omega) (by omega) (by omega) (by omega)) rfl ?_)
  rintro v w7 ⟨rfl, cs7, h7, hf7⟩
  have F7 := hf6.trans (U := [blk]) (H.fr.trans (U := [blk]) hf7 (by simp) (by simp)) (by simp) (by simp)
  obtain ⟨⟨mid, ap, d7⟩, hD7⟩ : ∃ D, D = Sort.partition ltU d5 a1 b1 p := ⟨_, rfl⟩
  obtain ⟨g1, g2, hs7, B7, B7', G7, G7'⟩ := Sort.round_part swoU (Sort.partition_holds ltU) hpa hpb (by omega) B5 hD7.symm
  rw [← hD7] at h7 ⊢
  dsimp only at h7 ⊢
  have hs7' : d7.size = n := by rw [hs7]; exact hs5
  clear H
  have H := Holds.start w7 []
  by_cases hh : mid - a1 < b1 - mid
  · refine Ops.pure H (X.move rfl) rfl rfl rfl ?_
    refine Ops.pure H (X.extract rfl rfl) rfl rfl rfl ?_
    refine Ops.pure H (X.extract rfl rfl) rfl rfl rfl ?_
    refine Ops.pure H (X.assign rfl) rfl rfl rfl ?_
    refine Ops.pure H (X.assign rfl) rfl rfl rfl ?_
    (refine Ops.nil (hK _ _ (Run.seq (Run.region ?_))); clear hK K; intro K hK)
    refine Ops.pure H (X.move rfl) rfl rfl rfl ?_
    refine Ops.pure H (X.assign rfl) rfl rfl rfl ?_
    (refine Ops.nil (hK _ _ (Run.seq (Run.region ?_))); clear hK K; intro K hK)
    refine Ops.pure H (X.move rfl) rfl rfl rfl ?_
    refine Ops.pure H (X.move rfl) rfl rfl rfl ?_
    refine Ops.pure H (X.subN rfl rfl rfl rfl (by omega) (IntWalk.i64_in _ (by omega))) rfl rfl rfl ?_
    refine Ops.pure H (X.move rfl) rfl rfl rfl ?_
    refine Ops.pure H (X.move rfl) rfl rfl rfl ?_
    refine Ops.pure H (X.subN rfl rfl rfl rfl (by omega) (IntWalk.i64_in _ (by omega))) rfl rfl rfl ?_
    refine Ops.pure H (X.assign rfl) rfl rfl rfl ?_
    refine Ops.pure H (X.assign rfl) rfl rfl rfl ?_
    (refine Ops.nil (hK _ _ (Run.seq (Run.region ?_))); clear hK K; intro K hK)
    refine Ops.pure H (X.move rfl) rfl rfl rfl ?_
    refine Ops.pure H (X.quoN (j := 8) rfl rfl rfl rfl (by omega) (IntWalk.i64_in _ (by omega))) rfl rfl rfl ?_
    refine Ops.pure H (X.assign rfl) rfl rfl rfl ?_
    (refine Ops.nil (hK _ _ (Run.seq (Run.region ?_))); clear hK K; intro K hK)
    refine Ops.pure H (X.move rfl) rfl rfl rfl ?_
    refine Ops.pure H (X.move rfl) rfl rfl rfl ?_
    refine Ops.pure H (X.cmp rfl rfl rfl) rfl rfl rfl ?_
    (refine Ops.nil (hK _ _ ?_); clear hK K)
    refine Run.cond_dec rfl (fun h113 => ?x12) (fun h113 => ?y12)
    case' y12 => exfalso; omega
    case' x12 =>
      (refine Run.seq (Run.region ?_); intro K hK)
      refine Ops.pure H (X.move rfl) rfl rfl rfl ?_
      refine Ops.pure H (X.move rfl) rfl rfl rfl ?_
      refine Ops.pure H (X.cmp rfl rfl rfl) rfl rfl rfl ?_
      refine Ops.pure H (X.assign rfl) rfl rfl rfl ?_
      (refine Ops.nil (hK _ _ (Run.seq (Run.region ?_))); clear hK K; intro K hK)
      refine Ops.pure H (X.move rfl) rfl rfl rfl ?_
      refine Ops.pure H (X.move rfl) rfl rfl rfl ?_
      refine Ops.pure H (X.move rfl) rfl rfl rfl ?_
      refine Ops.pure H (X.move rfl) rfl rfl rfl ?_
    refine Ops.eff rfl (Y.call rfl rfl (by first | assumption | decide +kernel) rfl (IHk (mid - a1) (by omega) _ d7 cs7 a1 mid l2 rfl hs7' (h7.ext H.fr) (by omega) (by omega) (by omega) B7) rfl ?_)
    rintro v w8 ⟨d8, cs8, h8, q1, q2, hf8⟩
    have F8 := F7.trans (U := [blk]) (H.fr.trans (U := [blk]) hf8 (by simp) (by simp)) (by simp) (by simp)
    obtain ⟨B8, G8⟩ := G7 _ q1 q2
    clear H
    have H := Holds.start w8 []
    (refine Ops.nil (hK _ _ ?_); clear hK K)
    (refine Run.region ?_; intro K hK)
    refine Ops.pure H (X.move rfl) rfl rfl rfl ?_
    refine Ops.pure H (X.succ rfl rfl (by omega)) rfl rfl rfl ?_
    refine Ops.pure H (X.assign rfl) rfl rfl rfl ?_
    (refine Ops.nil (hK _ _ ?_); clear hK K)
    refine Run.inBlock ?_
    exact (IH (mid + 1, b1, l2, decide ((((b1 - a1) / 8 : Nat) : Int) ≤ ((mid - a1 : Nat) : Int)), ap) _ (by dsimp only; omega) ⟨by dsimp only; omega, by dsimp only; omega, by dsimp only; omega, by dsimp only; omega, d8, _, by rw [q1.1]; exact hs7', h8.ext H.fr, B8, fun R r1 r2 => (fun q => G5 R q.1 q.2) (G8 R r1 r2), F8.trans H.fr (by simp) (by simp)⟩).weak (by repeat (first | exact trivial | refine ⟨rfl, ?_⟩))
  · refine Ops.pure H (X.move rfl) rfl rfl rfl ?_
    refine Ops.pure H (X.extract rfl rfl) rfl rfl rfl ?_
    refine Ops.pure H (X.extract rfl rfl) rfl rfl rfl ?_
    refine Ops.pure H (X.assign rfl) rfl rfl rfl ?_
    refine Ops.pure H (X.assign rfl) rfl rfl rfl ?_
    (refine Ops.nil (hK _ _ (Run.seq (Run.region ?_))); clear hK K; intro K hK)
    refine Ops.pure H (X.move rfl) rfl rfl rfl ?_
    refine Ops.pure H (X.assign rfl) rfl rfl rfl ?_
    (refine Ops.nil (hK _ _ (Run.seq (Run.region ?_))); clear hK K; intro K hK)
    refine Ops.pure H (X.move rfl) rfl rfl rfl ?_
    refine Ops.pure H (X.move rfl) rfl rfl rfl ?_
    refine Ops.pure H (X.subN rfl rfl rfl rfl (by omega) (IntWalk.i64_in _ (by omega))) rfl rfl rfl ?_
    refine Ops.pure H (X.move rfl) rfl rfl rfl ?_
    refine Ops.pure H (X.move rfl) rfl rfl rfl ?_
    refine Ops.pure H (X.subN rfl rfl rfl rfl (by omega) (IntWalk.i64_in _ (by omega))) rfl rfl rfl ?_
    refine Ops.pure H (X.assign rfl) rfl rfl rfl ?_
    refine Ops.pure H (X.assign rfl) rfl rfl rfl ?_
    (refine Ops.nil (hK _ _ (Run.seq (Run.region ?_))); clear hK K; intro K hK)
    refine Ops.pure H (X.move rfl) rfl rfl rfl ?_
    refine Ops.pure H (X.quoN (j := 8) rfl rfl rfl rfl (by omega) (IntWalk.i64_in _ (by omega))) rfl rfl rfl ?_
    refine Ops.pure H (X.assign rfl) rfl rfl rfl ?_
    (refine Ops.nil (hK _ _ (Run.seq (Run.region ?_))); clear hK K; intro K hK)
    refine Ops.pure H (X.move rfl) rfl rfl rfl ?_
    refine Ops.pure H (X.move rfl) rfl rfl rfl ?_
    refine Ops.pure H (X.cmp rfl rfl rfl) rfl rfl rfl ?_
    (refine Ops.nil (hK _ _ ?_); clear hK K)
    refine Run.cond_dec rfl (fun h113 => ?x13) (fun h113 => ?y13)
    case' y13 =>
      (refine Run.seq (Run.region ?_); intro K hK)
      refine Ops.pure H (X.move rfl) rfl rfl rfl ?_
      refine Ops.pure H (X.move rfl) rfl rfl rfl ?_
      refine Ops.pure H (X.cmp rfl rfl rfl) rfl rfl rfl ?_
      refine Ops.pure H (X.assign rfl) rfl rfl rfl ?_
      (refine Ops.nil (hK _ _ (Run.seq (Run.region ?_))); clear hK K; intro K hK)
      refine Ops.pure H (X.move rfl) rfl rfl rfl ?_
      refine Ops.pure H (X.move rfl) rfl rfl rfl ?_
      refine Ops.pure H (X.succ rfl rfl (by omega)) rfl rfl rfl ?_
      refine Ops.pure H (X.move rfl) rfl rfl rfl ?_
      refine Ops.pure H (X.move rfl) rfl rfl rfl ?_
    case' x13 => exfalso; omega
    refine Ops.eff rfl (Y.call rfl rfl (by first | assumption | decide +kernel) rfl (IHk (b1 - (mid + 1)) (by omega) _ d7 cs7 (mid + 1) b1 l2 rfl hs7' (h7.ext H.fr) (by omega) (by omega) (by omega) B7') rfl ?_)
    rintro v w8 ⟨d8, cs8, h8, q1, q2, hf8⟩
    have F8 := F7.trans (U := [blk]) (H.fr.trans (U := [blk]) hf8 (by simp) (by simp)) (by simp) (by simp)
    obtain ⟨B8, G8⟩ := G7' _ q1 q2
    clear H
    have H := Holds.start w8 []
    (refine Ops.nil (hK _ _ ?_); clear hK K)
    (refine Run.region ?_; intro K hK)
    refine Ops.pure H (X.move rfl) rfl rfl rfl ?_
    refine Ops.pure H (X.assign rfl) rfl rfl rfl ?_
    (refine Ops.nil (hK _ _ ?_); clear hK K)
    refine Run.inBlock ?_
    exact (IH (a1, mid, l2, decide ((((b1 - a1) / 8 : Nat) : Int) ≤ ((b1 - mid : Nat) : Int)), ap) _ (by dsimp only; omega) ⟨by dsimp only; omega, by dsimp only; omega, by dsimp only; omega, by dsimp only; omega, d8, _, by rw [q1.1]; exact hs7', h8.ext H.fr, B8, fun R r1 r2 => (fun q => G5 R q.1 q.2) (G8 R r1 r2), F8.trans H.fr (by simp) (by simp)⟩).weak (by repeat (first | exact trivial | refine ⟨rfl, ?_⟩))
end Go.Proofs.Ytaneenahapdabaa
