/- The library's sort, walked: the pivot's choice, reverseRange. -/
import Derived.Test.YtaneenahapdabaaSB
namespace Go.Proofs.Ytaneenahapdabaa
open Go
set_option maxRecDepth 20000
set_option maxHeartbeats 2000000
attribute [local irreducible] Run Ops Fn Draw Draw2 PureOp StepZ

theorem order2_any (z : World) (blk off cap : Nat) (d : Array Int) (cs : List Value) (a b sb k : Nat) {n : Nat} (hn : d.size = n) (h : Ar z blk off d cs) (ha : a < n) (hb : b < n) (hs : z.heap[sb]? = some (row [.int .i64 (k : Nat)] 3)) (hk : k ≤ 1000) :
    Fn env.P 81 [.slice (some ⟨blk, off, none⟩) n cap, .int .i64 (a : Nat), .int .i64 (b : Nat), .pointer (some ⟨sb, 0, none⟩)] z fun v w' => ∃ p q k' : Nat, v = .tuple #[.int .i64 (p : Nat), .int .i64 (q : Nat)] ∧ ((p = a ∧ q = b) ∨ (p = b ∧ q = a)) ∧ w'.heap[sb]? = some (row [.int .i64 (k' : Nat)] 3) ∧ k' ≤ k + 1 ∧ Fr z w' [sb] := by
  have c1 := h.hc a (by omega)
  have c2 := h.hc b (by omega)
  have hne : sb ≠ blk := ne_of_ty hs h.hb (by decide)
  have H := ((Holds.start z [sb]).add false h.hb (by simp) (by simp)).add true hs (by simpa using hne) (by simp)
  have HF := Try.func81; refine Fn.enter Try.func81 Try.ntmps81 rfl rfl rfl ?_
  (refine Run.seq (Run.region ?_); intro K hK)
  refine Ops.pure H (X.assign rfl) rfl rfl rfl ?_
  refine Ops.pure H (X.assign rfl) rfl rfl rfl ?_
  (refine Ops.nil (hK _ _ ?_); clear hK K)
  refine Run.seq ?_
  refine Run.seq ?_
  (refine Run.draw H [8] [0, 1, 2, 3, 4, 5, 6, 7, 8] ?_; clear H; intro K hK w H)
  refine Draw.take0 rfl (X.move rfl) rfl rfl rfl (by decide +kernel) ?_
  refine Draw.take0 rfl (X.move rfl) rfl rfl rfl (by decide +kernel) ?_
  refine Draw.take0 rfl (X.indexAddr rfl rfl (by omega) rfl rfl rfl rfl) rfl rfl rfl (by decide +kernel) ?_
  refine Draw.take rfl (X.load1 rfl rfl rfl rfl (.tail .head) (by assumption)) rfl rfl rfl (by decide +kernel) ?_
  refine Draw.take0 rfl (X.move rfl) rfl rfl rfl (by decide +kernel) ?_
  refine Draw.take0 rfl (X.move rfl) rfl rfl rfl (by decide +kernel) ?_
  refine Draw.take0 rfl (X.indexAddr rfl rfl (by omega) rfl rfl rfl rfl) rfl rfl rfl (by decide +kernel) ?_
  refine Draw.take rfl (X.load1 rfl rfl rfl rfl (.tail .head) (by assumption)) rfl rfl rfl (by decide +kernel) ?_
  refine Draw.last rfl rfl (by decide +kernel) (Y.call rfl rfl (by first | assumption | decide +kernel) rfl (less_any _ d[b]! d[a]!) rfl ?_)
  rintro v w3 ⟨rfl, rfl⟩
  (refine Draw2.done (by decide +kernel) (hK _ _ ?_); clear hK K)
  refine Run.cond_dec rfl (fun h18 => ?x0) (fun h18 => ?y0)
  case' y0 =>
    refine Run.skip ?_
    (refine Run.seq (Run.region ?_); intro K hK)
    refine Ops.pure H (X.move rfl) rfl rfl rfl ?_
    refine Ops.pure H (X.move rfl) rfl rfl rfl ?_
    refine Ops.pure H (X.assign rfl) rfl rfl rfl ?_
    refine Ops.pure H (X.assign rfl) rfl rfl rfl ?_
    (refine Ops.nil (hK _ _ ?_); clear hK K)
  case' x0 =>
    (refine Run.seq (Run.region ?_); intro K hK)
    refine Ops.pure H (X.move rfl) rfl rfl rfl ?_
    refine Ops.pure H (X.nilCheck rfl) rfl rfl rfl ?_
    refine Ops.pure H (X.load1 rfl rfl rfl rfl Pick.head rfl) rfl rfl rfl ?_
    refine Ops.pure H (X.succ rfl rfl (by omega)) rfl rfl rfl ?_
    refine Ops.pure H (X.nilCheck rfl) rfl rfl rfl ?_
    (refine Ops.eff rfl (Y.store1 rfl rfl rfl rfl rfl rfl H Upd.head (by repeat (first | exact SetC.zero | apply SetC.succ)) ?_); intro w H0; clear H; have H := H0; clear H0)
    (refine Ops.nil (hK _ _ (Run.seq (Run.region ?_))); clear hK K; intro K hK)
    refine Ops.pure H (X.move rfl) rfl rfl rfl ?_
    refine Ops.pure H (X.move rfl) rfl rfl rfl ?_
    refine Ops.pure H (X.assign rfl) rfl rfl rfl ?_
    refine Ops.pure H (X.assign rfl) rfl rfl rfl ?_
    (refine Ops.nil (hK _ _ ?_); clear hK K)
  · (first | refine Fn.ret1 HF rfl rfl ?_ | refine Fn.ret2 HF rfl rfl rfl ?_ | refine Fn.ret3 HF rfl rfl rfl rfl ?_ | refine Fn.ret0 HF rfl ?_ | refine Fn.fin0 HF rfl ?_ | refine Fn.retG (E := env) HF rfl H (by first | exact RVs.cellN rfl rfl rfl (by repeat (first | exact .head | apply Pick.tail)) (by first | assumption | exact Cs.take rfl) RVs.nil | exact RVs.cellN rfl rfl rfl (by repeat (first | exact .head | apply Pick.tail)) (by first | assumption | exact Cs.take rfl) (RVs.tmp rfl RVs.nil) | exact RVs.cellN rfl rfl rfl (by repeat (first | exact .head | apply Pick.tail)) (by first | assumption | exact Cs.take rfl) (RVs.tmp rfl (RVs.tmp rfl RVs.nil))) rfl ?_)
    exact ⟨b, a, k + 1, rfl, .inr ⟨rfl, rfl⟩, H.pick (b := sb) (by repeat (first | exact .head | apply Pick.tail)), by omega, H.fr⟩
  · (first | refine Fn.ret1 HF rfl rfl ?_ | refine Fn.ret2 HF rfl rfl rfl ?_ | refine Fn.ret3 HF rfl rfl rfl rfl ?_ | refine Fn.ret0 HF rfl ?_ | refine Fn.fin0 HF rfl ?_ | refine Fn.retG (E := env) HF rfl H (by first | exact RVs.cellN rfl rfl rfl (by repeat (first | exact .head | apply Pick.tail)) (by first | assumption | exact Cs.take rfl) RVs.nil | exact RVs.cellN rfl rfl rfl (by repeat (first | exact .head | apply Pick.tail)) (by first | assumption | exact Cs.take rfl) (RVs.tmp rfl RVs.nil) | exact RVs.cellN rfl rfl rfl (by repeat (first | exact .head | apply Pick.tail)) (by first | assumption | exact Cs.take rfl) (RVs.tmp rfl (RVs.tmp rfl RVs.nil))) rfl ?_)
    exact ⟨a, b, k, rfl, .inl ⟨rfl, rfl⟩, H.pick (b := sb) (by repeat (first | exact .head | apply Pick.tail)), by omega, H.fr⟩
theorem median_any (z : World) (blk off cap : Nat) (d : Array Int) (cs : List Value) (a b c sb k : Nat) {n : Nat} (hn : d.size = n) (h : Ar z blk off d cs) (ha : a < n) (hb : b < n) (hc : c < n) (hs : z.heap[sb]? = some (row [.int .i64 (k : Nat)] 3)) (hk : k ≤ 900) :
    Fn env.P 80 [.slice (some ⟨blk, off, none⟩) n cap, .int .i64 (a : Nat), .int .i64 (b : Nat), .int .i64 (c : Nat), .pointer (some ⟨sb, 0, none⟩)] z fun v w' => ∃ p k' : Nat, v = .int .i64 (p : Nat) ∧ (p = a ∨ p = b ∨ p = c) ∧ w'.heap[sb]? = some (row [.int .i64 (k' : Nat)] 3) ∧ k' ≤ k + 3 ∧ Fr z w' [sb] := by
  have hne : sb ≠ blk := ne_of_ty hs h.hb (by decide)
  have H := Holds.start z []
  have HF := Try.func80; refine Fn.enter Try.func80 Try.ntmps80 rfl rfl rfl ?_
  (refine Run.seq (Run.region ?_); intro K hK)
  refine Ops.pure H (X.assign rfl) rfl rfl rfl ?_
  (refine Ops.nil (hK _ _ (Run.seq (Run.region ?_))); clear hK K; intro K hK)
  refine Ops.pure H (X.move rfl) rfl rfl rfl ?_
  refine Ops.pure H (X.move rfl) rfl rfl rfl ?_
  refine Ops.pure H (X.move rfl) rfl rfl rfl ?_
  refine Ops.pure H (X.move rfl) rfl rfl rfl ?_
  refine Ops.eff rfl (Y.call rfl rfl (by first | assumption | decide +kernel) rfl (order2_any _ blk off cap d cs a b sb k hn (h.ext H.fr) ha hb (H.fr.get hs (by simp)) (by omega)) rfl ?_)
  rintro v w1 ⟨a1, b1, k1, rfl, ho1, hs1, hk1, hf1⟩
  have F1 := H.fr.trans (U := [sb]) hf1 (by simp) (by simp)
  have h1 := h.keep F1 (by simpa using hne.symm)
  clear H
  have H := Holds.start w1 []
  refine Ops.pure H (X.move rfl) rfl rfl rfl ?_
  refine Ops.pure H (X.extract rfl rfl) rfl rfl rfl ?_
  refine Ops.pure H (X.extract rfl rfl) rfl rfl rfl ?_
  refine Ops.pure H (X.assign rfl) rfl rfl rfl ?_
  refine Ops.pure H (X.assign rfl) rfl rfl rfl ?_
  (refine Ops.nil (hK _ _ (Run.seq (Run.region ?_))); clear hK K; intro K hK)
  refine Ops.pure H (X.move rfl) rfl rfl rfl ?_
  refine Ops.pure H (X.move rfl) rfl rfl rfl ?_
  refine Ops.pure H (X.move rfl) rfl rfl rfl ?_
  refine Ops.pure H (X.move rfl) rfl rfl rfl ?_
  refine Ops.eff rfl (Y.call rfl rfl (by first | assumption | decide +kernel) rfl (order2_any _ blk off cap d cs b1 c sb k1 hn (h1.ext H.fr) (by omega) hc (H.fr.get hs1 (by simp)) (by omega)) rfl ?_)
  rintro v w2 ⟨b2, c2, k2, rfl, ho2, hs2, hk2, hf2⟩
  have F2 := F1.trans (U := [sb]) (H.fr.trans (U := [sb]) hf2 (by simp) (by simp)) (by simp) (by simp)
  have h2 := h.keep F2 (by simpa using hne.symm)
  clear H
  have H := Holds.start w2 []
  refine Ops.pure H (X.move rfl) rfl rfl rfl ?_
  refine Ops.pure H (X.extract rfl rfl) rfl rfl rfl ?_
  refine Ops.pure H (X.extract rfl rfl) rfl rfl rfl ?_
  refine Ops.pure H (X.assign rfl) rfl rfl rfl ?_
  refine Ops.pure H (X.assign rfl) rfl rfl rfl ?_
  (refine Ops.nil (hK _ _ (Run.seq (Run.region ?_))); clear hK K; intro K hK)
  refine Ops.pure H (X.move rfl) rfl rfl rfl ?_
  refine Ops.pure H (X.move rfl) rfl rfl rfl ?_
  refine Ops.pure H (X.move rfl) rfl rfl rfl ?_
  refine Ops.pure H (X.move rfl) rfl rfl rfl ?_
  refine Ops.eff rfl (Y.call rfl rfl (by first | assumption | decide +kernel) rfl (order2_any _ blk off cap d cs a1 b2 sb k2 hn (h2.ext H.fr) (by omega) (by omega) (H.fr.get hs2 (by simp)) (by omega)) rfl ?_)
  rintro v w3 ⟨a3, b3, k3, rfl, ho3, hs3, hk3, hf3⟩
  have F3 := F2.trans (U := [sb]) (H.fr.trans (U := [sb]) hf3 (by simp) (by simp)) (by simp) (by simp)
  clear H
  have H := Holds.start w3 []
  refine Ops.pure H (X.move rfl) rfl rfl rfl ?_
  refine Ops.pure H (X.extract rfl rfl) rfl rfl rfl ?_
  refine Ops.pure H (X.extract rfl rfl) rfl rfl rfl ?_
  refine Ops.pure H (X.assign rfl) rfl rfl rfl ?_
  refine Ops.pure H (X.assign rfl) rfl rfl rfl ?_
  (refine Ops.nil (hK _ _ (Run.seq (Run.region ?_))); clear hK K; intro K hK)
  refine Ops.pure H (X.move rfl) rfl rfl rfl ?_
  refine Ops.pure H (X.assign rfl) rfl rfl rfl ?_
  (refine Ops.nil (hK _ _ ?_); clear hK K)
  (first | refine Fn.ret1 HF rfl rfl ?_ | refine Fn.ret2 HF rfl rfl rfl ?_ | refine Fn.ret3 HF rfl rfl rfl rfl ?_ | refine Fn.ret0 HF rfl ?_ | refine Fn.fin0 HF rfl ?_ | refine Fn.retG (E := env) HF rfl H (by first | exact RVs.cellN rfl rfl rfl (by repeat (first | exact .head | apply Pick.tail)) (by first | assumption | exact Cs.take rfl) RVs.nil | exact RVs.cellN rfl rfl rfl (by repeat (first | exact .head | apply Pick.tail)) (by first | assumption | exact Cs.take rfl) (RVs.tmp rfl RVs.nil) | exact RVs.cellN rfl rfl rfl (by repeat (first | exact .head | apply Pick.tail)) (by first | assumption | exact Cs.take rfl) (RVs.tmp rfl (RVs.tmp rfl RVs.nil))) rfl ?_)
  exact ⟨b3, k3, rfl, by omega, H.fr.get hs3 (by simp), by omega, F3.trans H.fr (by simp) (by simp)⟩
theorem madj_any (z : World) (blk off cap : Nat) (d : Array Int) (cs : List Value) (a sb k : Nat) {n : Nat} (hn : d.size = n) (h : Ar z blk off d cs) (ha : 1 ≤ a) (hb : a + 1 < n) (hm : n ≤ 4611686018427387903) (hs : z.heap[sb]? = some (row [.int .i64 (k : Nat)] 3)) (hk : k ≤ 900) :
    Fn env.P 79 [.slice (some ⟨blk, off, none⟩) n cap, .int .i64 (a : Nat), .pointer (some ⟨sb, 0, none⟩)] z fun v w' => ∃ p k' : Nat, v = .int .i64 (p : Nat) ∧ (a - 1 ≤ p ∧ p ≤ a + 1) ∧ w'.heap[sb]? = some (row [.int .i64 (k' : Nat)] 3) ∧ k' ≤ k + 3 ∧ Fr z w' [sb] := by
  have H := Holds.start z []
  have HF := Try.func79; refine Fn.enter Try.func79 Try.ntmps79 rfl rfl rfl ?_
  (refine Run.seq (Run.region ?_); intro K hK)
  refine Ops.pure H (X.assign rfl) rfl rfl rfl ?_
  (refine Ops.nil (hK _ _ (Run.seq (Run.region ?_))); clear hK K; intro K hK)
  refine Ops.pure H (X.move rfl) rfl rfl rfl ?_
  refine Ops.pure H (X.move rfl) rfl rfl rfl ?_
  refine Ops.pure H (X.subN (j := 1) rfl rfl rfl rfl (by omega) (IntWalk.i64_in _ (by omega))) rfl rfl rfl ?_
  refine Ops.pure H (X.move rfl) rfl rfl rfl ?_
  refine Ops.pure H (X.move rfl) rfl rfl rfl ?_
  refine Ops.pure H (X.succ rfl rfl (by omega)) rfl rfl rfl ?_
  refine Ops.pure H (X.move rfl) rfl rfl rfl ?_
  refine Ops.eff rfl (Y.call rfl rfl (by first | assumption | decide +kernel) rfl (median_any _ blk off cap d cs (a - 1) a (a + 1) sb k hn (h.ext H.fr) (by omega) (by omega) (by omega) (H.fr.get hs (by simp)) hk) rfl ?_)
  rintro v w1 ⟨p, k1, rfl, ho1, hs1, hk1, hf1⟩
  have F1 := H.fr.trans (U := [sb]) hf1 (by simp) (by simp)
  clear H
  have H := Holds.start w1 []
  refine Ops.pure H (X.assign rfl) rfl rfl rfl ?_
  (refine Ops.nil (hK _ _ ?_); clear hK K)
  (first | refine Fn.ret1 HF rfl rfl ?_ | refine Fn.ret2 HF rfl rfl rfl ?_ | refine Fn.ret3 HF rfl rfl rfl rfl ?_ | refine Fn.ret0 HF rfl ?_ | refine Fn.fin0 HF rfl ?_ | refine Fn.retG (E := env) HF rfl H (by first | exact RVs.cellN rfl rfl rfl (by repeat (first | exact .head | apply Pick.tail)) (by first | assumption | exact Cs.take rfl) RVs.nil | exact RVs.cellN rfl rfl rfl (by repeat (first | exact .head | apply Pick.tail)) (by first | assumption | exact Cs.take rfl) (RVs.tmp rfl RVs.nil) | exact RVs.cellN rfl rfl rfl (by repeat (first | exact .head | apply Pick.tail)) (by first | assumption | exact Cs.take rfl) (RVs.tmp rfl (RVs.tmp rfl RVs.nil))) rfl ?_)
  exact ⟨p, k1, rfl, by omega, H.fr.get hs1 (by simp), by omega, F1.trans H.fr (by simp) (by simp)⟩
theorem pivot_any (z : World) (blk off cap : Nat) (d : Array Int) (cs : List Value) (a b : Nat) {n : Nat} (hn : d.size = n) (h : Ar z blk off d cs) (hab : a < b) (hb : b ≤ n) (hm : n ≤ 2305843009213693951) :
    Fn env.P 69 [.slice (some ⟨blk, off, none⟩) n cap, .int .i64 (a : Nat), .int .i64 (b : Nat)] z fun v w' => ∃ p h : Nat, v = .tuple #[.int .i64 (p : Nat), .int .i64 (h : Nat)] ∧ a ≤ p ∧ p < b ∧ h ≤ 2 ∧ Fr z w' [] := by
  have hbl := lt_of_at h.hb
  have H := Holds.start z []
  have HF := Try.func69; refine Fn.enter Try.func69 Try.ntmps69 rfl rfl rfl ?_
  (refine Run.seq (Run.region ?_); intro K hK)
  refine Ops.pure H (X.assign rfl) rfl rfl rfl ?_
  refine Ops.pure H (X.assign rfl) rfl rfl rfl ?_
  (refine Ops.nil (hK _ _ (Run.seq (Run.region ?_))); clear hK K; intro K hK)
  refine Ops.pure H (X.move rfl) rfl rfl rfl ?_
  refine Ops.pure H (X.move rfl) rfl rfl rfl ?_
  refine Ops.pure H (X.subN rfl rfl rfl rfl (by omega) (IntWalk.i64_in _ (by omega))) rfl rfl rfl ?_
  refine Ops.pure H (X.assign rfl) rfl rfl rfl ?_
  (refine Ops.nil (hK _ _ (Run.seq (Run.region ?_))); clear hK K; intro K hK)
  (refine Ops.eff rfl (Y.alloc rfl rfl rfl H ?_); intro b9 w H0 hb9; clear H; have H := H0; clear H0)
  (refine Ops.nil (hK _ _ (Run.seq (Run.region ?_))); clear hK K; intro K hK)
  refine Ops.pure H (X.move rfl) rfl rfl rfl ?_
  refine Ops.pure H (X.move rfl) rfl rfl rfl ?_
  refine Ops.pure H (X.quoN (j := 4) rfl rfl rfl rfl (by omega) (IntWalk.i64_in _ (by omega))) rfl rfl rfl ?_
  refine Ops.pure H (X.mulN (j := 1) rfl rfl rfl rfl (IntWalk.i64_in _ (by omega))) rfl rfl rfl ?_
  refine Ops.pure H (X.addN rfl rfl rfl rfl (IntWalk.i64_in _ (by omega))) rfl rfl rfl ?_
  refine Ops.pure H (X.assign rfl) rfl rfl rfl ?_
  (refine Ops.nil (hK _ _ (Run.seq (Run.region ?_))); clear hK K; intro K hK)
  refine Ops.pure H (X.move rfl) rfl rfl rfl ?_
  refine Ops.pure H (X.move rfl) rfl rfl rfl ?_
  refine Ops.pure H (X.quoN (j := 4) rfl rfl rfl rfl (by omega) (IntWalk.i64_in _ (by omega))) rfl rfl rfl ?_
  refine Ops.pure H (X.mulN (j := 2) rfl rfl rfl rfl (IntWalk.i64_in _ (by omega))) rfl rfl rfl ?_
  refine Ops.pure H (X.addN rfl rfl rfl rfl (IntWalk.i64_in _ (by omega))) rfl rfl rfl ?_
  refine Ops.pure H (X.assign rfl) rfl rfl rfl ?_
  (refine Ops.nil (hK _ _ (Run.seq (Run.region ?_))); clear hK K; intro K hK)
  refine Ops.pure H (X.move rfl) rfl rfl rfl ?_
  refine Ops.pure H (X.move rfl) rfl rfl rfl ?_
  refine Ops.pure H (X.quoN (j := 4) rfl rfl rfl rfl (by omega) (IntWalk.i64_in _ (by omega))) rfl rfl rfl ?_
  refine Ops.pure H (X.mulN (j := 3) rfl rfl rfl rfl (IntWalk.i64_in _ (by omega))) rfl rfl rfl ?_
  refine Ops.pure H (X.addN rfl rfl rfl rfl (IntWalk.i64_in _ (by omega))) rfl rfl rfl ?_
  refine Ops.pure H (X.assign rfl) rfl rfl rfl ?_
  (refine Ops.nil (hK _ _ ?_); clear hK K)
  obtain ⟨sb, hsb⟩ : ∃ sb, sb = b9 := ⟨_, rfl⟩
  subst hsb
  refine Run.seq ?_
  refine Run.meet (fun (p : Nat) => [(9, .pointer (some ⟨sb, 0, none⟩)), (11, .int .i64 (p : Nat))])
    (fun p w' => a ≤ p ∧ p < b ∧ Fr z w' [] ∧ ∃ k : Nat, w'.heap[sb]? = some (row [.int .i64 (k : Nat)] 3)) ?_ ?_
  rotate_left
  · intro kk go
    have hb0 : w.heap[sb]? = some (row [.int .i64 ((0 : Nat) : Int)] 3) := H.pick .head
    have hzw := H.fr
    have hne : sb ≠ blk := by omega
    have hA := h.ext H.fr
    clear H
    have H := Holds.start w []
    (refine Run.seq (Run.region ?_); intro K hK)
    refine Ops.pure H (X.move rfl) rfl rfl rfl ?_
    refine Ops.pure H (X.cmp rfl rfl rfl) rfl rfl rfl ?_
    (refine Ops.nil (hK _ _ ?_); clear hK K)
    refine Run.cond_dec rfl (fun h32 => ?x1) (fun h32 => ?y1)
    case' y1 =>
      refine Run.skip ?_
    case' x1 =>
      refine Run.seq ?_
      (refine Run.seq (Run.region ?_); intro K hK)
      refine Ops.pure H (X.move rfl) rfl rfl rfl ?_
      refine Ops.pure H (X.cmp rfl rfl rfl) rfl rfl rfl ?_
      (refine Ops.nil (hK _ _ ?_); clear hK K)
      refine Run.cond_dec rfl (fun h34 => ?x2) (fun h34 => ?y2)
      case' y2 =>
        refine Run.skip ?_
        (refine Run.region ?_; intro K hK)
        refine Ops.pure H (X.move rfl) rfl rfl rfl ?_
        refine Ops.pure H (X.move rfl) rfl rfl rfl ?_
        refine Ops.pure H (X.move rfl) rfl rfl rfl ?_
        refine Ops.pure H (X.move rfl) rfl rfl rfl ?_
      case' x2 =>
        (refine Run.seq (Run.region ?_); intro K hK)
        refine Ops.pure H (X.move rfl) rfl rfl rfl ?_
        refine Ops.pure H (X.move rfl) rfl rfl rfl ?_
    · refine Ops.eff rfl (Y.call rfl rfl (by first | assumption | decide +kernel) rfl (madj_any _ blk off cap d cs (a + (b - a) / 4 * 1) sb 0 hn (hA.ext H.fr) (by omega) (by omega) (by omega) (H.fr.get hb0 (by simp)) (by omega)) rfl ?_)
      rintro v w1 ⟨p1, k1, rfl, ho1, hs1, hk1, hf1⟩
      have F1 := H.fr.trans (U := [sb]) hf1 (by simp) (by simp)
      have A1 := hA.keep F1 (by simpa using hne.symm)
      clear H
      have H := Holds.start w1 []
      refine Ops.pure H (X.assign rfl) rfl rfl rfl ?_
      (refine Ops.nil (hK _ _ (Run.seq (Run.region ?_))); clear hK K; intro K hK)
      refine Ops.pure H (X.move rfl) rfl rfl rfl ?_
      refine Ops.pure H (X.move rfl) rfl rfl rfl ?_
      refine Ops.eff rfl (Y.call rfl rfl (by first | assumption | decide +kernel) rfl (madj_any _ blk off cap d cs (a + (b - a) / 4 * 2) sb k1 hn (A1.ext H.fr) (by omega) (by omega) (by omega) (H.fr.get hs1 (by simp)) (by omega)) rfl ?_)
      rintro v w2 ⟨p2, k2, rfl, ho2, hs2, hk2, hf2⟩
      have F2 := F1.trans (U := [sb]) (H.fr.trans (U := [sb]) hf2 (by simp) (by simp)) (by simp) (by simp)
      have A2 := hA.keep F2 (by simpa using hne.symm)
      clear H
      have H := Holds.start w2 []
      refine Ops.pure H (X.assign rfl) rfl rfl rfl ?_
      (refine Ops.nil (hK _ _ ?_); clear hK K)
      (refine Run.region ?_; intro K hK)
      refine Ops.pure H (X.move rfl) rfl rfl rfl ?_
      refine Ops.pure H (X.move rfl) rfl rfl rfl ?_
      refine Ops.eff rfl (Y.call rfl rfl (by first | assumption | decide +kernel) rfl (madj_any _ blk off cap d cs (a + (b - a) / 4 * 3) sb k2 hn (A2.ext H.fr) (by omega) (by omega) (by omega) (H.fr.get hs2 (by simp)) (by omega)) rfl ?_)
      rintro v w3 ⟨p3, k3, rfl, ho3, hs3, hk3, hf3⟩
      have F3 := F2.trans (U := [sb]) (H.fr.trans (U := [sb]) hf3 (by simp) (by simp)) (by simp) (by simp)
      have A3 := hA.keep F3 (by simpa using hne.symm)
      clear H
      have H := Holds.start w3 []
      refine Ops.pure H (X.assign rfl) rfl rfl rfl ?_
      (refine Ops.nil (hK _ _ ?_); clear hK K)
      (refine Run.region ?_; intro K hK)
      refine Ops.pure H (X.move rfl) rfl rfl rfl ?_
      refine Ops.pure H (X.move rfl) rfl rfl rfl ?_
      refine Ops.pure H (X.move rfl) rfl rfl rfl ?_
      refine Ops.pure H (X.move rfl) rfl rfl rfl ?_
      refine Ops.eff rfl (Y.call rfl rfl (by first | assumption | decide +kernel) rfl (median_any _ blk off cap d cs p1 p2 p3 sb k3 hn (A3.ext H.fr) (by omega) (by omega) (by omega) (H.fr.get hs3 (by simp)) (by omega)) rfl ?_)
      rintro v w4 ⟨p4, k4, rfl, ho4, hs4, hk4, hf4⟩
      have F4 := F3.trans (U := [sb]) (H.fr.trans (U := [sb]) hf4 (by simp) (by simp)) (by simp) (by simp)
      clear H
      have H := Holds.start w4 []
      refine Ops.pure H (X.assign rfl) rfl rfl rfl ?_
      (refine Ops.nil (hK _ _ ?_); clear hK K)
      exact go p4 _ _ ⟨by omega, by omega, hzw.trans (U := []) (F4.trans (U := [sb]) H.fr (by simp) (by simp)) (by simp) (fun x hx hl => by simp at hx; omega), k4, H.fr.get hs4 (by simp)⟩ (by repeat (first | exact trivial | refine ⟨rfl, ?_⟩))
    · refine Ops.eff rfl (Y.call rfl rfl (by first | assumption | decide +kernel) rfl (median_any _ blk off cap d cs (a + (b - a) / 4 * 1) (a + (b - a) / 4 * 2) (a + (b - a) / 4 * 3) sb 0 hn (hA.ext H.fr) (by omega) (by omega) (by omega) (H.fr.get hb0 (by simp)) (by omega)) rfl ?_)
      rintro v w4 ⟨p4, k4, rfl, ho4, hs4, hk4, hf4⟩
      have F4 := H.fr.trans (U := [sb]) hf4 (by simp) (by simp)
      clear H
      have H := Holds.start w4 []
      refine Ops.pure H (X.assign rfl) rfl rfl rfl ?_
      (refine Ops.nil (hK _ _ ?_); clear hK K)
      exact go p4 _ _ ⟨by omega, by omega, hzw.trans (U := []) (F4.trans (U := [sb]) H.fr (by simp) (by simp)) (by simp) (fun x hx hl => by simp at hx; omega), k4, H.fr.get hs4 (by simp)⟩ (by repeat (first | exact trivial | refine ⟨rfl, ?_⟩))
    · exact go (a + (b - a) / 4 * 2) _ _ ⟨by omega, by omega, hzw.then H.fr, 0, H.fr.get hb0 (by simp)⟩ (by repeat (first | exact trivial | refine ⟨rfl, ?_⟩))
  · rintro p w2 ⟨hp1, hp2, hf2, k, hk⟩
    clear H
    have H := (Holds.start w2 []).add false hk (by simp) (by simp)
    (refine Run.seq (Run.region ?_); intro K hK)
    refine Ops.pure H (X.load1 rfl rfl rfl rfl Pick.head rfl) rfl rfl rfl ?_
    (refine Ops.nil (hK _ _ ?_); clear hK K)
    refine Run.block ?_
    (refine Run.seq (Run.region ?_); intro K hK)
    refine Ops.pure H (X.cmp rfl rfl rfl) rfl rfl rfl ?_
    refine Ops.pure H (X.assign rfl) rfl rfl rfl ?_
    (refine Ops.nil (hK _ _ ?_); clear hK K)
    refine Run.cond_dec rfl (fun h51 => ?x3) (fun h51 => ?y3)
    case' y3 =>
      (refine Run.seq (Run.region ?_); intro K hK)
      refine Ops.pure H (X.cmp rfl rfl rfl) rfl rfl rfl ?_
      refine Ops.pure H (X.assign rfl) rfl rfl rfl ?_
      (refine Ops.nil (hK _ _ ?_); clear hK K)
      refine Run.cond_dec rfl (fun h54 => ?x4) (fun h54 => ?y4)
      case' y4 =>
        (refine Run.seq (Run.region ?_); intro K hK)
        refine Ops.pure H (X.move rfl) rfl rfl rfl ?_
        refine Ops.pure H (X.assign rfl) rfl rfl rfl ?_
        refine Ops.pure H (X.assign rfl) rfl rfl rfl ?_
        (refine Ops.nil (hK _ _ ?_); clear hK K)
      case' x4 =>
        (refine Run.seq (Run.region ?_); intro K hK)
        refine Ops.pure H (X.move rfl) rfl rfl rfl ?_
        refine Ops.pure H (X.assign rfl) rfl rfl rfl ?_
        refine Ops.pure H (X.assign rfl) rfl rfl rfl ?_
        (refine Ops.nil (hK _ _ ?_); clear hK K)
    case' x3 =>
      (refine Run.seq (Run.region ?_); intro K hK)
      refine Ops.pure H (X.move rfl) rfl rfl rfl ?_
      refine Ops.pure H (X.assign rfl) rfl rfl rfl ?_
      refine Ops.pure H (X.assign rfl) rfl rfl rfl ?_
      (refine Ops.nil (hK _ _ ?_); clear hK K)
    · (first | refine Fn.ret1 HF rfl rfl ?_ | refine Fn.ret2 HF rfl rfl rfl ?_ | refine Fn.ret3 HF rfl rfl rfl rfl ?_ | refine Fn.ret0 HF rfl ?_ | refine Fn.fin0 HF rfl ?_ | refine Fn.retG (E := env) HF rfl H (by first | exact RVs.cellN rfl rfl rfl (by repeat (first | exact .head | apply Pick.tail)) (by first | assumption | exact Cs.take rfl) RVs.nil | exact RVs.cellN rfl rfl rfl (by repeat (first | exact .head | apply Pick.tail)) (by first | assumption | exact Cs.take rfl) (RVs.tmp rfl RVs.nil) | exact RVs.cellN rfl rfl rfl (by repeat (first | exact .head | apply Pick.tail)) (by first | assumption | exact Cs.take rfl) (RVs.tmp rfl (RVs.tmp rfl RVs.nil))) rfl ?_)
      exact ⟨p, 1, rfl, hp1, hp2, by omega, hf2.then H.fr⟩
    · (first | refine Fn.ret1 HF rfl rfl ?_ | refine Fn.ret2 HF rfl rfl rfl ?_ | refine Fn.ret3 HF rfl rfl rfl rfl ?_ | refine Fn.ret0 HF rfl ?_ | refine Fn.fin0 HF rfl ?_ | refine Fn.retG (E := env) HF rfl H (by first | exact RVs.cellN rfl rfl rfl (by repeat (first | exact .head | apply Pick.tail)) (by first | assumption | exact Cs.take rfl) RVs.nil | exact RVs.cellN rfl rfl rfl (by repeat (first | exact .head | apply Pick.tail)) (by first | assumption | exact Cs.take rfl) (RVs.tmp rfl RVs.nil) | exact RVs.cellN rfl rfl rfl (by repeat (first | exact .head | apply Pick.tail)) (by first | assumption | exact Cs.take rfl) (RVs.tmp rfl (RVs.tmp rfl RVs.nil))) rfl ?_)
      exact ⟨p, 2, rfl, hp1, hp2, by omega, hf2.then H.fr⟩
    · (first | refine Fn.ret1 HF rfl rfl ?_ | refine Fn.ret2 HF rfl rfl rfl ?_ | refine Fn.ret3 HF rfl rfl rfl rfl ?_ | refine Fn.ret0 HF rfl ?_ | refine Fn.fin0 HF rfl ?_ | refine Fn.retG (E := env) HF rfl H (by first | exact RVs.cellN rfl rfl rfl (by repeat (first | exact .head | apply Pick.tail)) (by first | assumption | exact Cs.take rfl) RVs.nil | exact RVs.cellN rfl rfl rfl (by repeat (first | exact .head | apply Pick.tail)) (by first | assumption | exact Cs.take rfl) (RVs.tmp rfl RVs.nil) | exact RVs.cellN rfl rfl rfl (by repeat (first | exact .head | apply Pick.tail)) (by first | assumption | exact Cs.take rfl) (RVs.tmp rfl (RVs.tmp rfl RVs.nil))) rfl ?_)
      exact ⟨p, 0, rfl, hp1, hp2, by omega, hf2.then H.fr⟩
theorem rev_any (z : World) (blk off cap : Nat) (d : Array Int) (cs : List Value) (a b : Nat) {n : Nat} (hn : d.size = n) (h : Ar z blk off d cs) (hab : a < b) (hb : b ≤ n) (hm : n ≤ 2305843009213693951) :
    Fn env.P 70 [.slice (some ⟨blk, off, none⟩) n cap, .int .i64 (a : Nat), .int .i64 (b : Nat)] z fun _ w' => ∃ cs', Ar w' blk off (Sort.reverseRange d a b) cs' ∧ Fr z w' [blk] := by
  have H := Holds.start z []
  have HF := Try.func70; refine Fn.enter Try.func70 Try.ntmps70 rfl rfl rfl ?_
  (refine Run.seq (Run.region ?_); intro K hK)
  refine Ops.pure H (X.move rfl) rfl rfl rfl ?_
  refine Ops.pure H (X.assign rfl) rfl rfl rfl ?_
  (refine Ops.nil (hK _ _ (Run.seq (Run.region ?_))); clear hK K; intro K hK)
  refine Ops.pure H (X.move rfl) rfl rfl rfl ?_
  refine Ops.pure H (X.subN (j := 1) rfl rfl rfl rfl (by omega) (IntWalk.i64_in _ (by omega))) rfl rfl rfl ?_
  refine Ops.pure H (X.assign rfl) rfl rfl rfl ?_
  (refine Ops.nil (hK _ _ ?_); clear hK K)
  refine Run.block ?_
  refine Run.rounds (fun (x : Nat × Nat) => [(0, .slice (some ⟨blk, off, none⟩) n cap), (6, .int .i64 (x.1 : Nat)), (7, .int .i64 (x.2 : Nat))])
    (fun x w' => x.2 < n ∧ ∃ (d' : Array Int) (cs' : List Value), d'.size = n ∧ Ar w' blk off d' cs' ∧ Sort.reverseLoop x.1 x.2 d' = Sort.reverseRange d a b ∧ Fr z w' [blk]) (fun x => x.2 - x.1) (a, b - 1) (by repeat (first | exact trivial | refine ⟨rfl, ?_⟩)) ⟨by dsimp only; omega, d, cs, hn, h, rfl, Fr.refl _ _⟩ ?_
  clear H
  rintro ⟨i, j⟩ w1 ⟨hj, d1, cs1, hs1, h1, he1, hf1⟩ IH
  dsimp only at hj he1 IH ⊢
  rw [Sort.reverseLoop] at he1
  by_cases hij : i < j
  · rw [if_pos hij] at he1
    have c1 := h1.hc i (by omega)
    have c2 := h1.hc j (by omega)
    have hl1 := h1.hl
    have H := (Holds.start w1 [blk]).add true h1.hb (by simp) (by simp)
    refine Run.seq ?_
    (refine Run.seq (Run.region ?_); intro K hK)
    refine Ops.pure H (X.move rfl) rfl rfl rfl ?_
    refine Ops.pure H (X.move rfl) rfl rfl rfl ?_
    refine Ops.pure H (X.cmp rfl rfl rfl) rfl rfl rfl ?_
    (refine Ops.nil (hK _ _ ?_); clear hK K)
    refine Run.cond_dec rfl (fun h13 => ?x5) (fun h13 => ?y5)
    case' y5 => exfalso; omega
    case' x5 =>
      refine Run.skip ?_
      refine Run.block ?_
      refine Run.seq ?_
      (refine Run.draw H [13, 15] [0, 1, 2, 3, 4, 5, 6, 7, 8, 9, 10, 11, 12, 13, 14, 15] ?_; clear H; intro K hK w H)
      refine Draw.take0 rfl (X.move rfl) rfl rfl rfl (by decide +kernel) ?_
      refine Draw.take0 rfl (X.move rfl) rfl rfl rfl (by decide +kernel) ?_
      refine Draw.take0 rfl (X.move rfl) rfl rfl rfl (by decide +kernel) ?_
      refine Draw.take0 rfl (X.move rfl) rfl rfl rfl (by decide +kernel) ?_
      refine Draw.take0 rfl (X.move rfl) rfl rfl rfl (by decide +kernel) ?_
      refine Draw.take0 rfl (X.move rfl) rfl rfl rfl (by decide +kernel) ?_
      refine Draw.take0 rfl (X.indexAddr rfl rfl (by omega) rfl rfl rfl rfl) rfl rfl rfl (by decide +kernel) ?_
      refine Draw.take rfl (X.load1 rfl rfl rfl rfl Pick.head (by assumption)) rfl rfl rfl (by decide +kernel) ?_
      refine Draw.take0 rfl (X.move rfl) rfl rfl rfl (by decide +kernel) ?_
      refine Draw.take0 rfl (X.move rfl) rfl rfl rfl (by decide +kernel) ?_
      refine Draw.take0 rfl (X.indexAddr rfl rfl (by omega) rfl rfl rfl rfl) rfl rfl rfl (by decide +kernel) ?_
      refine Draw.take rfl (X.load1 rfl rfl rfl rfl Pick.head (by assumption)) rfl rfl rfl (by decide +kernel) ?_
      refine Draw.take0 rfl (X.indexAddr rfl rfl (by omega) rfl rfl rfl rfl) rfl rfl rfl (by decide +kernel) ?_
      (refine Draw.last rfl rfl (by decide +kernel) (Y.storeI rfl rfl rfl rfl rfl rfl H Upd.head (by first | omega | (simp only [List.length_set]; omega)) ?_); intro w H0; clear H; have H := H0; clear H0)
      refine Draw2.take rfl (X.indexAddr rfl rfl (by omega) rfl rfl rfl rfl) rfl rfl rfl (by decide +kernel) ?_
      (refine Draw2.eff rfl rfl (by decide +kernel) (Y.storeI rfl rfl rfl rfl rfl rfl H Upd.head (by first | omega | (simp only [List.length_set]; omega)) ?_); intro w H0; clear H; have H := H0; clear H0)
      (refine Draw2.done (by decide +kernel) (hK _ _ ?_); clear hK K)
      (refine Run.seq (Run.region ?_); intro K hK)
      refine Ops.pure H (X.move rfl) rfl rfl rfl ?_
      refine Ops.pure H (X.succ rfl rfl (by omega)) rfl rfl rfl ?_
      refine Ops.pure H (X.assign rfl) rfl rfl rfl ?_
      (refine Ops.nil (hK _ _ ?_); clear hK K)
      (refine Run.region ?_; intro K hK)
      refine Ops.pure H (X.move rfl) rfl rfl rfl ?_
      refine Ops.pure H (X.subN (j := 1) rfl rfl rfl rfl (by omega) (IntWalk.i64_in _ (by omega))) rfl rfl rfl ?_
      refine Ops.pure H (X.assign rfl) rfl rfl rfl ?_
      (refine Ops.nil (hK _ _ ?_); clear hK K)
      refine Run.inBlock ?_
    have h2 := h1.swp1 (i := i) (j := j) (by omega) (by omega) (H.pick .head)
    exact (IH (i + 1, j - 1) _ (by dsimp only; omega) ⟨by dsimp only; omega, _, _, by rw [swp_size]; exact hs1, h2, he1, hf1.trans H.fr (by simp) (by simp)⟩).weak (by repeat (first | exact trivial | refine ⟨rfl, ?_⟩))
  · rw [if_neg hij] at he1
    have H := Holds.start w1 []
    refine Run.seq ?_
    (refine Run.seq (Run.region ?_); intro K hK)
    refine Ops.pure H (X.move rfl) rfl rfl rfl ?_
    refine Ops.pure H (X.move rfl) rfl rfl rfl ?_
    refine Ops.pure H (X.cmp rfl rfl rfl) rfl rfl rfl ?_
    (refine Ops.nil (hK _ _ ?_); clear hK K)
    refine Run.cond_dec rfl (fun h13 => ?x6) (fun h13 => ?y6)
    case' y6 =>
      refine Run.exit rfl ?_
    case' x6 => exfalso; omega
    (first | refine Fn.ret1 HF rfl rfl ?_ | refine Fn.ret2 HF rfl rfl rfl ?_ | refine Fn.ret3 HF rfl rfl rfl rfl ?_ | refine Fn.ret0 HF rfl ?_ | refine Fn.fin0 HF rfl ?_ | refine Fn.retG (E := env) HF rfl H (by first | exact RVs.cellN rfl rfl rfl (by repeat (first | exact .head | apply Pick.tail)) (by first | assumption | exact Cs.take rfl) RVs.nil | exact RVs.cellN rfl rfl rfl (by repeat (first | exact .head | apply Pick.tail)) (by first | assumption | exact Cs.take rfl) (RVs.tmp rfl RVs.nil) | exact RVs.cellN rfl rfl rfl (by repeat (first | exact .head | apply Pick.tail)) (by first | assumption | exact Cs.take rfl) (RVs.tmp rfl (RVs.tmp rfl RVs.nil))) rfl ?_)
    rw [← he1]
    exact ⟨cs1, h1.ext H.fr, hf1.trans H.fr (by simp) (by simp)⟩
end Go.Proofs.Ytaneenahapdabaa
