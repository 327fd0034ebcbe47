/- Walks of layer 6: the law NetEnd. -/
import Derived.Test.YtpmihcefjdeonaaQG
import Derived.Test.YtpmihcefjdeonaaQI
namespace Go.Proofs.Ytpmihcefjdeonaa
open Go
set_option maxRecDepth 20000
set_option maxHeartbeats 2000000
attribute [local irreducible] Run Ops Fn Draw Draw2 PureOp StepZ

structure AL where
  c : AC
  v : Value
def AActs (w : World) (a : Option Addr) (n b off : Nat) (cs : List Value) (T : TypeId) (fz : Nat × Nat) (A : Nat → AL) : Prop :=
  n ≤ 2199023255488 ∧ (0 < n → a = some ⟨b, off, none⟩ ∧ w.heap[b]? = some (.cells (List.toArray cs) T fz)) ∧ ∀ j, j < n → Cs cs (off + j * 6) 6 (acC (A j).c (A j).v) ∧ Bys w (A j).v (A j).c.b ∧ (A j).c.b.length ≤ 140737488351232 ∧ (-9223372036854775808 ≤ (A j).c.i ∧ (A j).c.i ≤ 9223372036854775807)
/-- The pair and its two networks. -/
structure Duo (z w : World) (pb : Nat) (g : PG) (h : RG) (s : Ns) : Prop where
  ap : Apart w g h
  fr : Fr z w []
  pr : w.heap[pb]? = some (row [.pointer (some ⟨g.nb, 0, none⟩), .pointer (some ⟨h.rb, 0, none⟩)] 34)
  pz : z.heap.size ≤ pb
  pf : Free g h pb
  nP : ∀ c, PF g c → z.heap.size ≤ c
  nI : ∀ c, PI g c → z.heap.size ≤ c
  nR : ∀ c, RD h c → z.heap.size ≤ c
  ag : g.abs = s
  ah : h.abs = s
theorem Duo.step {z w w' : World} {pb : Nat} {g g' : PG} {h h' : RG} {s s' : Ns} (D : Duo z w pb g h s) (B : Both w g h w' g' h') (hg : g'.abs = s') (hh : h'.abs = s') : Duo z w' pb g' h' s' := by
  obtain ⟨S, hf, hS⟩ := B.fr
  have hz := D.fr.size
  refine ⟨B.ap, D.fr.trans hf (by simp) (fun x hx hl => ?_), by rw [B.nb, B.rb]; exact B.getF D.pr D.pf, D.pz, B.free (lt_of_at D.pr) D.pf, fun c hc => (B.ownP c hc).elim (D.nP c) (fun e => by omega), fun c hc => (B.immP c hc).elim (D.nI c) (fun e => by omega), fun c hc => (B.ownR c hc).elim (D.nR c) (fun e => by omega), hg, hh⟩
  rcases hS x hx with e | e
  · have := D.nP x e; omega
  · have := D.nR x (.inl e); omega
theorem Duo.ext {z w w' : World} {pb : Nat} {g : PG} {h : RG} {s : Ns} (D : Duo z w pb g h s) (hf : Fr w w' []) : Duo z w' pb g h s := D.step (.rfl' D.ap hf) D.ag D.ah
theorem Duo.old {z w : World} {pb : Nat} {g : PG} {h : RG} {s : Ns} (D : Duo z w pb g h s) {c : Nat} (hc : c < z.heap.size) : Free g h c :=
  ⟨fun hp => by have := D.nP c hp; omega, fun hp => by have := D.nI c hp; omega, fun hp => by have := D.nR c hp; omega⟩
/-- The pair, and what is known of the program's network. -/
structure Solo (z w : World) (pb : Nat) (d : Value) (g : PG) (s : Ns) : Prop where
  p : PN w g
  fr : Fr z w []
  pr : w.heap[pb]? = some (row [.pointer (some ⟨g.nb, 0, none⟩), d] 34)
  pf : ¬ PF g pb
  nP : ∀ c, PF g c → z.heap.size ≤ c
  ag : g.abs = s
theorem Duo.solo {z w : World} {pb : Nat} {g : PG} {h : RG} {s : Ns} (D : Duo z w pb g h s) : Solo z w pb (.pointer (some ⟨h.rb, 0, none⟩)) g s := ⟨D.ap.p, D.fr, D.pr, D.pf.1, D.nP, D.ag⟩
theorem Solo.step {z w w' : World} {pb : Nat} {d : Value} {g g' : PG} {s s' : Ns} (D : Solo z w pb d g s) (st : PStep w g w' g') (hg : g'.abs = s') : Solo z w' pb d g' s' := by
  obtain ⟨S, hf, hS⟩ := st.fr
  have hz := D.fr.size
  exact ⟨st.ok, D.fr.trans hf (by simp) (fun x hx hl => by have := D.nP x (hS x hx); omega), by rw [st.nb]; exact st.get D.pr D.pf, st.nPF (lt_of_at D.pr) D.pf, fun c hc => (st.own c hc).elim (D.nP c) (fun e => by omega), hg⟩
theorem Solo.ext {z w w' : World} {pb : Nat} {d : Value} {g : PG} {s : Ns} (D : Solo z w pb d g s) (hf : Fr w w' []) : Solo z w' pb d g s := D.step (.rfl' D.p hf) D.ag
theorem Unsure_at (z : World) (g : PG) (i j : Int) {nb : Nat} (hnb : g.nb = nb) (h : PN z g) (hb : ∀ a, (g.abs.way a).told ≤ (g.abs.way a).sent.length ∧ (g.abs.way a).sent.length ≤ 4611686018427387903) : Fn env.P 10 [.pointer (some ⟨nb, 0, none⟩), .int .i64 i, .int .i64 j] z fun v w' =>
    v = .tuple #[.int .i64 (if g.abs.isN i ∧ g.abs.isN j then (g.abs.way (i.toNat, j.toNat)).sent.length - (g.abs.way (i.toNat, j.toNat)).told else 0 : Nat), .int .i64 (if g.abs.isN i ∧ g.abs.isN j then 0 else 60)] ∧ ∃ g', PStep z g w' g' ∧ g'.abs = g.abs := by subst hnb; exact Unsure_any z g i j h hb
theorem flights_at (z : World) (g : PG) (k : Nat) {nb : Nat} (hnb : g.nb = nb) (h : PN z g) (hok : g.abs.Ok k) : Fn env.P 11 [.pointer (some ⟨nb, 0, none⟩)] z fun v w' => Fr z w' [] ∧ ∃ a cap, v = .slice a g.abs.fly.length cap := by
  subst hnb
  refine (flights_any z g k h hok).mono ?_
  rintro v w' ⟨hf, ob, ps, hL, hps, _⟩
  obtain ⟨a, cap, rfl, _⟩ := hL.slice
  have e : g.abs.fly.length = ps.length := by rw [← hps, List.length_map]
  exact ⟨hf, a, cap, by rw [e]⟩
theorem sumLag_le (s : Ns) (i k : Nat) (h : ∀ a, (s.way a).sent.length ≤ k) (m : Nat) : sumLag s i m ≤ m * k := by
  induction m with
  | zero => exact Nat.zero_le _
  | succ m ih =>
    rw [sumLag, Nat.succ_mul]
    have : s.lag (i, m) ≤ k := by unfold Ns.lag; have := h (i, m); omega
    omega
theorem isN_nat (s : Ns) (i : Nat) (h : i < s.n) : s.isN (i : Nat) = true := by unfold Ns.isN; exact decide_eq_true (by omega)
theorem netEnd_no (z : World) (n : Int) (av : Value) (fr to : Int) (h : ¬ (1 ≤ n ∧ n ≤ 64)) : Fn env.P 3 [.int .i64 n, av, .int .u8 fr, .int .u8 to] z fun v w' => v = .bool true ∧ Fr z w' [] := by
  have H := Holds.start z []
  have HF := Try.func3; refine Fn.enter Try.func3 Try.ntmps3 rfl rfl rfl ?_
  refine Run.seq ?_
  (refine Run.region ?_; intro K hK)
  refine Ops.pure H (X.assign rfl) rfl rfl rfl ?_
  (refine Ops.nil (hK _ _ ?_); clear hK K)
  refine Run.seq ?_
  refine Run.seq ?_
  (refine Run.region ?_; intro K hK)
  refine Ops.eff rfl (Y.call rfl rfl (by first | assumption | decide +kernel) rfl (lives_yes _) rfl ?_)
  rintro v w1 ⟨rfl, hf1⟩
  replace H := H.ext hf1
  refine Ops.pure H (X.not rfl) rfl rfl rfl ?_
  (refine Ops.nil (hK _ _ ?_); clear hK K)
  refine Run.cond_false rfl ?_
  refine Run.skip ?_
  refine Run.seq ?_
  (refine Run.region ?_; intro K hK)
  refine Ops.pure H (X.move rfl) rfl rfl rfl ?_
  refine Ops.eff rfl (Y.call rfl rfl (by first | assumption | decide +kernel) rfl (begins_no _ n h) rfl ?_)
  rintro v w2 ⟨rfl, rfl⟩
  refine Ops.pure H (X.move rfl) rfl rfl rfl ?_
  refine Ops.pure H (X.extract rfl rfl) rfl rfl rfl ?_
  refine Ops.pure H (X.extract rfl rfl) rfl rfl rfl ?_
  refine Ops.pure H (X.assign rfl) rfl rfl rfl ?_
  refine Ops.pure H (X.assign rfl) rfl rfl rfl ?_
  (refine Ops.nil (hK _ _ ?_); clear hK K)
  refine Run.seq ?_
  refine Run.seq ?_
  (refine Run.region ?_; intro K hK)
  refine Ops.pure H (X.move rfl) rfl rfl rfl ?_
  refine Ops.pure H (X.ptrNil rfl rfl rfl rfl rfl) rfl rfl rfl ?_
  (refine Ops.nil (hK _ _ ?_); clear hK K)
  refine Run.cond_true rfl ?_
  refine Run.seq ?_
  (refine Run.region ?_; intro K hK)
  refine Ops.pure H (X.move rfl) rfl rfl rfl ?_
  refine Ops.pure H (X.assign rfl) rfl rfl rfl ?_
  (refine Ops.nil (hK _ _ ?_); clear hK K)
  (first | refine Fn.ret1 HF rfl rfl ?_ | refine Fn.ret2 HF rfl rfl rfl ?_ | refine Fn.ret3 HF rfl rfl rfl rfl ?_ | refine Fn.ret0 HF rfl ?_ | refine Fn.fin0 HF rfl ?_ | refine Fn.retG (E := env) HF rfl H (by first | exact RVs.cellN rfl rfl rfl (by first | exact .head | exact .tail .head | exact .tail (.tail .head) | exact .tail (.tail (.tail .head)) | exact .tail (.tail (.tail (.tail .head))) | exact .tail (.tail (.tail (.tail (.tail .head)))) | exact .tail (.tail (.tail (.tail (.tail (.tail .head)))))) (by first | assumption | exact Cs.take rfl) RVs.nil | exact RVs.cellN rfl rfl rfl (by first | exact .head | exact .tail .head | exact .tail (.tail .head) | exact .tail (.tail (.tail .head)) | exact .tail (.tail (.tail (.tail .head))) | exact .tail (.tail (.tail (.tail (.tail .head)))) | exact .tail (.tail (.tail (.tail (.tail (.tail .head)))))) (by first | assumption | exact Cs.take rfl) (RVs.tmp rfl RVs.nil) | exact RVs.cellN rfl rfl rfl (by first | exact .head | exact .tail .head | exact .tail (.tail .head) | exact .tail (.tail (.tail .head)) | exact .tail (.tail (.tail (.tail .head))) | exact .tail (.tail (.tail (.tail (.tail .head)))) | exact .tail (.tail (.tail (.tail (.tail (.tail .head)))))) (by first | assumption | exact Cs.take rfl) (RVs.tmp rfl (RVs.tmp rfl RVs.nil))) rfl ?_)
  exact ⟨rfl, H.fr⟩
theorem netEnd_yes (z : World) (n : Nat) (aa : Option Addr) (an acap ab aoff : Nat) (acs : List Value) (aT : TypeId) (afz : Nat × Nat) (A : Nat → AL) (fr to : Nat) (hA : AActs z aa an ab aoff acs aT afz A) (h1 : 1 ≤ n) (h2 : n ≤ 64) (hfr : fr ≤ 255) (hto : to ≤ 255) :
    Fn env.P 3 [.int .i64 (n : Nat), .slice aa an acap, .int .u8 (fr : Nat), .int .u8 (to : Nat)] z fun v w' => v = .bool true ∧ Fr z w' [] := by
  have H := Holds.start z []
  have HF := Try.func3; refine Fn.enter Try.func3 Try.ntmps3 rfl rfl rfl ?_
  refine Run.seq ?_
  (refine Run.region ?_; intro K hK)
  refine Ops.pure H (X.assign rfl) rfl rfl rfl ?_
  (refine Ops.nil (hK _ _ ?_); clear hK K)
  refine Run.seq ?_
  refine Run.seq ?_
  (refine Run.region ?_; intro K hK)
  refine Ops.eff rfl (Y.call rfl rfl (by first | assumption | decide +kernel) rfl (lives_yes _) rfl ?_)
  rintro v w1 ⟨rfl, hf1⟩
  replace H := H.ext hf1
  refine Ops.pure H (X.not rfl) rfl rfl rfl ?_
  (refine Ops.nil (hK _ _ ?_); clear hK K)
  refine Run.cond_false rfl ?_
  refine Run.skip ?_
  refine Run.seq ?_
  (refine Run.region ?_; intro K hK)
  refine Ops.pure H (X.move rfl) rfl rfl rfl ?_
  refine Ops.eff rfl (Y.call rfl rfl (by first | assumption | decide +kernel) rfl (begins_yes _ n h1 h2) rfl ?_)
  rintro v w2 ⟨pb, g0, h0, rfl, hpr, hap, hg0, hh0, hf2, hpz, hfree, hnP, hnI, hnR⟩
  have hsz1 := H.fr.size
  have hzs : ∀ c, w1.heap.size ≤ c → z.heap.size ≤ c := fun c hc => by have := hf1.size; omega
  have D0 : Duo z w2 pb g0 h0 (ns0 n) := ⟨hap, H.fr.then hf2, hpr, by omega, hfree, fun c hc => Nat.le_trans hsz1 (hnP c hc), fun c hc => absurd hc (hnI c), fun c hc => Nat.le_trans hsz1 (hnR c hc), hg0, hh0⟩
  have H := Holds.start w2 []
  refine Ops.pure H (X.move rfl) rfl rfl rfl ?_
  refine Ops.pure H (X.extract rfl rfl) rfl rfl rfl ?_
  refine Ops.pure H (X.extract rfl rfl) rfl rfl rfl ?_
  refine Ops.pure H (X.assign rfl) rfl rfl rfl ?_
  refine Ops.pure H (X.assign rfl) rfl rfl rfl ?_
  (refine Ops.nil (hK _ _ ?_); clear hK K)
  refine Run.seq ?_
  refine Run.seq ?_
  (refine Run.region ?_; intro K hK)
  refine Ops.pure H (X.move rfl) rfl rfl rfl ?_
  refine Ops.pure H (X.ptrNil rfl rfl rfl rfl rfl) rfl rfl rfl ?_
  (refine Ops.nil (hK _ _ ?_); clear hK K)
  refine Run.cond_false rfl ?_
  refine Run.skip ?_
  refine Run.seq ?_
  refine Run.seq ?_
  (refine Run.region ?_; intro K hK)
  refine Ops.pure H (X.assign rfl) rfl rfl rfl ?_
  (refine Ops.nil (hK _ _ ?_); clear hK K)
  refine Run.block ?_
  obtain ⟨s, hs⟩ : ∃ s : Nat → Ns, s = fun i => (ns0 n).run (fun j => (A j).c) i := ⟨_, rfl⟩
  have hs0 : s 0 = ns0 n := by rw [hs]; rfl
  have hss : ∀ i, s (i + 1) = (s i).act (A i).c := fun i => by rw [hs]; rfl
  have hsok : ∀ i, (s i).Ok i := fun i => by rw [hs]; exact run_ok (ns0_ok n) _ i
  have hsinv : ∀ i, (s i).Inv := fun i => by rw [hs]; exact run_inv (ns0_inv n) _ i
  have hsn : ∀ i, (s i).n = n := fun i => by rw [hs]; exact run_n _ _ i
  clear hs
  refine Run.rounds (fun (i : Nat) => [(0, .int .i64 (n : Nat)), (1, .slice aa an acap), (2, .int .u8 (fr : Nat)), (3, .int .u8 (to : Nat)), (9, .pointer (some ⟨pb, 0, none⟩)), (11, .int .i64 (i : Nat))])
    (fun i w' => i ≤ an ∧ ∃ g h, Duo z w' pb g h (s i)) (fun i => an - i) 0 (by repeat (first | exact trivial | refine ⟨rfl, ?_⟩)) ⟨by omega, g0, h0, by rw [hs0]; exact D0.ext H.fr⟩ ?_
  clear H D0 hpr hap hg0 hh0 hf2 hpz hfree hnP hnI hnR hsz1 hzs hf1
  rintro i w3 ⟨hi, g, h, D⟩ IH
  have hA1 := hA.1
  by_cases hlt : i < an
  · obtain ⟨hcs, hxs, hxl, hxi⟩ := hA.2.2 i hlt
    obtain ⟨rfl, hab⟩ := hA.2.1 (by omega)
    have hsi := hss i
    generalize A i = ai at hcs hxs hxl hxi hsi
    obtain ⟨c, bv⟩ := ai
    dsimp only at hcs hxs hxl hxi hsi
    have hab3 := D.fr.get hab (by simp)
    have hlab := lt_of_at hab
    have hbv3 := hxs.ext D.fr
    have hbb : ∀ a m cp, bv = .slice (some a) m cp → 0 < m → Free g h a.block := by
      intro a m cp e hm
      obtain ⟨a', cap', b', off', cs', T', fz', e', _, _, h4, _⟩ := hxs
      rw [e] at e'
      simp at e'
      obtain ⟨rfl, rfl, rfl⟩ := e'
      obtain ⟨e4, h5⟩ := h4 hm
      cases e4
      exact D.old (lt_of_at h5)
    unfold acC at hcs
    have H := (Holds.start w3 []).add false hab3 (by simp) (by simp)
    refine Run.seq ?_
    refine Run.seq ?_
    (refine Run.region ?_; intro K hK)
    refine Ops.pure H (X.move rfl) rfl rfl rfl ?_
    refine Ops.pure H (X.move rfl) rfl rfl rfl ?_
    refine Ops.pure H (X.len_slice rfl rfl rfl) rfl rfl rfl ?_
    refine Ops.pure H (X.cmp rfl rfl rfl) rfl rfl rfl ?_
    (refine Ops.nil (hK _ _ ?_); clear hK K)
    refine Run.cond_dec rfl (fun h34 => ?x0) (fun h34 => ?y0)
    case' y0 => exfalso; omega
    case' x0 =>
      refine Run.skip ?_
      refine Run.seq ?_
      refine Run.block ?_
      refine Run.seq ?_
      (refine Run.region ?_; intro K hK)
      refine Ops.pure H (X.move rfl) rfl rfl rfl ?_
      refine Ops.pure H (X.move rfl) rfl rfl rfl ?_
      refine Ops.pure H (X.move rfl) rfl rfl rfl ?_
      refine Ops.pure H (X.indexAddr rfl rfl (by omega) rfl rfl rfl rfl) rfl rfl rfl ?_
      refine Ops.pure H (X.loadN rfl rfl rfl Pick.head (by assumption)) rfl rfl rfl ?_
    refine Ops.eff rfl (Y.call rfl rfl (by first | assumption | decide +kernel) rfl (does_any _ pb g h c bv i (D.ext H.fr).pr D.pf (D.ext H.fr).ap (by rw [D.ah, D.ag]) (by rw [D.ag]; exact hsok i) (by omega) (hbv3.ext H.fr) hxl hbb hxi) rfl ?_)
    rintro v w4 ⟨rfl, g', h', B, hg', hh'⟩
    rw [D.ag, ← hsi] at hg' hh'
    have D4 := (D.ext H.fr).step B hg' hh'
    clear H
    have H := Holds.start w4 []
    refine Ops.pure H (X.not rfl) rfl rfl rfl ?_
    (refine Ops.nil (hK _ _ ?_); clear hK K)
    refine Run.cond_false rfl ?_
    refine Run.skip ?_
    refine Run.inBlock ?_
    (refine Run.region ?_; intro K hK)
    refine Ops.pure H (X.move rfl) rfl rfl rfl ?_
    refine Ops.pure H (X.succ rfl rfl (by omega)) rfl rfl rfl ?_
    refine Ops.pure H (X.assign rfl) rfl rfl rfl ?_
    (refine Ops.nil (hK _ _ ?_); clear hK K)
    exact (IH (i + 1) _ (by omega) ⟨by omega, g', h', D4.ext H.fr⟩).weak (by repeat (first | exact trivial | refine ⟨rfl, ?_⟩))
  · obtain rfl : i = an := by omega
    obtain ⟨a, hae⟩ : ∃ a : Nat, a = fr % n := ⟨_, rfl⟩
    obtain ⟨b, hbe⟩ : ∃ b : Nat, b = to % n := ⟨_, rfl⟩
    have han : a < n := by rw [hae]; exact Nat.mod_lt _ (by omega)
    have hbn : b < n := by rw [hbe]; exact Nat.mod_lt _ (by omega)
    have ha : ((fr : Nat) : Int) % ((n : Nat) : Int) = ((a : Nat) : Int) := by rw [hae]; omega
    have hb : ((to : Nat) : Int) % ((n : Nat) : Int) = ((b : Nat) : Int) := by rw [hbe]; omega
    obtain ⟨S, hS⟩ : ∃ S, S = s i := ⟨_, rfl⟩
    have hok := hsok i
    have hinv := hsinv i
    have hn := hsn i
    rw [← hS] at hok hinv hn D
    clear hS hss hs0 hsok hsinv hsn IH s hA hlt hae hbe
    have H := (Holds.start w3 []).add false D.pr (by simp) (by simp)
    refine Run.seq ?_
    refine Run.seq ?_
    (refine Run.region ?_; intro K hK)
    refine Ops.pure H (X.move rfl) rfl rfl rfl ?_
    refine Ops.pure H (X.move rfl) rfl rfl rfl ?_
    refine Ops.pure H (X.len_slice rfl rfl rfl) rfl rfl rfl ?_
    refine Ops.pure H (X.cmp rfl rfl rfl) rfl rfl rfl ?_
    (refine Ops.nil (hK _ _ ?_); clear hK K)
    refine Run.cond_dec rfl (fun h34 => ?x1) (fun h34 => ?y1)
    case' y1 =>
      refine Run.exit rfl ?_
      refine Run.seq ?_
      (refine Run.draw H [] [0, 1, 2, 3, 4, 5, 6, 7, 8, 9] ?_; clear H; intro K hK w H)
      refine Draw.take0 rfl (X.move rfl) rfl rfl rfl (by decide +kernel) ?_
      refine Draw.take0 rfl (X.conv rfl rfl rfl rfl rfl (IntWalk.i64_in _ (by omega))) rfl rfl rfl (by decide +kernel) ?_
      refine Draw.take0 rfl (X.move rfl) rfl rfl rfl (by decide +kernel) ?_
      refine Draw.take0 rfl (X.remP rfl rfl (by omega)) rfl rfl rfl (by decide +kernel) ?_
      refine Draw.take0 rfl (X.move rfl) rfl rfl rfl (by decide +kernel) ?_
      refine Draw.take0 rfl (X.conv rfl rfl rfl rfl rfl (IntWalk.i64_in _ (by omega))) rfl rfl rfl (by decide +kernel) ?_
      refine Draw.take0 rfl (X.move rfl) rfl rfl rfl (by decide +kernel) ?_
      refine Draw.take0 rfl (X.remP rfl rfl (by omega)) rfl rfl rfl (by decide +kernel) ?_
      refine Draw.take0 rfl (X.assign rfl) rfl rfl rfl (by decide +kernel) ?_
      refine Draw.take0 rfl (X.assign rfl) rfl rfl rfl (by decide +kernel) ?_
      (refine Draw.done (by decide +kernel) (hK _ _ ?_); clear hK K)
      refine Run.seq ?_
      refine Run.seq ?_
      (refine Run.region ?_; intro K hK)
      refine Ops.pure H (X.move rfl) rfl rfl rfl ?_
      refine Ops.pure H (X.nilCheck rfl) rfl rfl rfl ?_
      refine Ops.pure H (X.fieldAddr rfl rfl rfl rfl rfl rfl) rfl rfl rfl ?_
      refine Ops.pure H (X.load1 rfl rfl rfl rfl Pick.head rfl) rfl rfl rfl ?_
      refine Ops.pure H (X.move rfl) rfl rfl rfl ?_
    case' x1 => exfalso; omega
    rw [ha, hb]
    refine Ops.eff rfl (Y.call rfl rfl (by first | assumption | decide +kernel) rfl (Is_at _ g (a : Nat) rfl (D.ap.p.ext H.fr)) rfl ?_)
    rintro v w4 ⟨rfl, rfl⟩
    rw [D.ag]
    cases hta : S.there (a : Nat) with
    | false =>
      refine Ops.pure H (X.not rfl) rfl rfl rfl ?_
      refine Ops.pure H (X.move rfl) rfl rfl rfl ?_
      refine Ops.pass rfl rfl rfl ?_
      refine Ops.pass rfl rfl rfl ?_
      refine Ops.pass rfl rfl rfl ?_
      refine Ops.pass rfl rfl rfl ?_
      refine Ops.pass rfl rfl rfl ?_
      refine Ops.pass rfl rfl rfl ?_
      refine Ops.pass rfl rfl rfl ?_
      refine Ops.pure H (X.pick_t rfl rfl) rfl rfl rfl ?_
      (refine Ops.nil (hK _ _ ?_); clear hK K)
      refine Run.cond_true rfl ?_
      refine Run.seq ?_
      (refine Run.region ?_; intro K hK)
      refine Ops.pure H (X.assign rfl) rfl rfl rfl ?_
      (refine Ops.nil (hK _ _ ?_); clear hK K)
      (first | refine Fn.ret1 HF rfl rfl ?_ | refine Fn.ret2 HF rfl rfl rfl ?_ | refine Fn.ret3 HF rfl rfl rfl rfl ?_ | refine Fn.ret0 HF rfl ?_ | refine Fn.fin0 HF rfl ?_ | refine Fn.retG (E := env) HF rfl H (by first | exact RVs.cellN rfl rfl rfl (by first | exact .head | exact .tail .head | exact .tail (.tail .head) | exact .tail (.tail (.tail .head)) | exact .tail (.tail (.tail (.tail .head))) | exact .tail (.tail (.tail (.tail (.tail .head)))) | exact .tail (.tail (.tail (.tail (.tail (.tail .head)))))) (by first | assumption | exact Cs.take rfl) RVs.nil | exact RVs.cellN rfl rfl rfl (by first | exact .head | exact .tail .head | exact .tail (.tail .head) | exact .tail (.tail (.tail .head)) | exact .tail (.tail (.tail (.tail .head))) | exact .tail (.tail (.tail (.tail (.tail .head)))) | exact .tail (.tail (.tail (.tail (.tail (.tail .head)))))) (by first | assumption | exact Cs.take rfl) (RVs.tmp rfl RVs.nil) | exact RVs.cellN rfl rfl rfl (by first | exact .head | exact .tail .head | exact .tail (.tail .head) | exact .tail (.tail (.tail .head)) | exact .tail (.tail (.tail (.tail .head))) | exact .tail (.tail (.tail (.tail (.tail .head)))) | exact .tail (.tail (.tail (.tail (.tail (.tail .head)))))) (by first | assumption | exact Cs.take rfl) (RVs.tmp rfl (RVs.tmp rfl RVs.nil))) rfl ?_)
      exact ⟨rfl, D.fr.then H.fr⟩
    | true =>
    refine Ops.pure H (X.not rfl) rfl rfl rfl ?_
    refine Ops.pure H (X.move rfl) rfl rfl rfl ?_
    refine Ops.pure H (X.move rfl) rfl rfl rfl ?_
    refine Ops.pure H (X.nilCheck rfl) rfl rfl rfl ?_
    refine Ops.pure H (X.fieldAddr rfl rfl rfl rfl rfl rfl) rfl rfl rfl ?_
    refine Ops.pure H (X.load1 rfl rfl rfl rfl Pick.head rfl) rfl rfl rfl ?_
    refine Ops.pure H (X.move rfl) rfl rfl rfl ?_
    refine Ops.eff rfl (Y.call rfl rfl (by first | assumption | decide +kernel) rfl (Is_at _ g (b : Nat) rfl (D.ap.p.ext H.fr)) rfl ?_)
    rintro v w4 ⟨rfl, rfl⟩
    rw [D.ag]
    cases htb : S.there (b : Nat) with
    | false =>
      refine Ops.pure H (X.not rfl) rfl rfl rfl ?_
      refine Ops.pure H (X.pick_f rfl rfl) rfl rfl rfl ?_
      (refine Ops.nil (hK _ _ ?_); clear hK K)
      refine Run.cond_true rfl ?_
      refine Run.seq ?_
      (refine Run.region ?_; intro K hK)
      refine Ops.pure H (X.assign rfl) rfl rfl rfl ?_
      (refine Ops.nil (hK _ _ ?_); clear hK K)
      (first | refine Fn.ret1 HF rfl rfl ?_ | refine Fn.ret2 HF rfl rfl rfl ?_ | refine Fn.ret3 HF rfl rfl rfl rfl ?_ | refine Fn.ret0 HF rfl ?_ | refine Fn.fin0 HF rfl ?_ | refine Fn.retG (E := env) HF rfl H (by first | exact RVs.cellN rfl rfl rfl (by first | exact .head | exact .tail .head | exact .tail (.tail .head) | exact .tail (.tail (.tail .head)) | exact .tail (.tail (.tail (.tail .head))) | exact .tail (.tail (.tail (.tail (.tail .head)))) | exact .tail (.tail (.tail (.tail (.tail (.tail .head)))))) (by first | assumption | exact Cs.take rfl) RVs.nil | exact RVs.cellN rfl rfl rfl (by first | exact .head | exact .tail .head | exact .tail (.tail .head) | exact .tail (.tail (.tail .head)) | exact .tail (.tail (.tail (.tail .head))) | exact .tail (.tail (.tail (.tail (.tail .head)))) | exact .tail (.tail (.tail (.tail (.tail (.tail .head)))))) (by first | assumption | exact Cs.take rfl) (RVs.tmp rfl RVs.nil) | exact RVs.cellN rfl rfl rfl (by first | exact .head | exact .tail .head | exact .tail (.tail .head) | exact .tail (.tail (.tail .head)) | exact .tail (.tail (.tail (.tail .head))) | exact .tail (.tail (.tail (.tail (.tail .head)))) | exact .tail (.tail (.tail (.tail (.tail (.tail .head)))))) (by first | assumption | exact Cs.take rfl) (RVs.tmp rfl (RVs.tmp rfl RVs.nil))) rfl ?_)
      exact ⟨rfl, D.fr.then H.fr⟩
    | true =>
    have hua : S.up a = true := by obtain ⟨j, e, _, hu⟩ := there_iff.1 hta; have : a = j := by omega
                                   rw [this]; exact hu
    have hub : S.up b = true := by obtain ⟨j, e, _, hu⟩ := there_iff.1 htb; have : b = j := by omega
                                   rw [this]; exact hu
    have hway : ∀ x, (S.way x).told ≤ (S.way x).sent.length ∧ (S.way x).sent.length ≤ 4611686018427387903 := fun x => by obtain ⟨q1, q2, q3, _⟩ := hok.way x; exact ⟨q3, by omega⟩
    refine Ops.pure H (X.not rfl) rfl rfl rfl ?_
    refine Ops.pure H (X.pick_f rfl rfl) rfl rfl rfl ?_
    (refine Ops.nil (hK _ _ ?_); clear hK K)
    refine Run.cond_false rfl ?_
    refine Run.skip ?_
    refine Run.seq ?_
    (refine Run.region ?_; intro K hK)
    refine Ops.pure H (X.assign rfl) rfl rfl rfl ?_
    (refine Ops.nil (hK _ _ ?_); clear hK K)
    refine Run.seq ?_
    refine Run.seq ?_
    (refine Run.region ?_; intro K hK)
    refine Ops.pure H (X.assign rfl) rfl rfl rfl ?_
    (refine Ops.nil (hK _ _ ?_); clear hK K)
    refine Run.block ?_
    refine Run.rounds (fun (x : Nat) => [(0, .int .i64 (n : Nat)), (9, .pointer (some ⟨pb, 0, none⟩)), (12, .int .i64 (a : Nat)), (13, .int .i64 (b : Nat)), (14, .int .i64 (sumLag S a x : Nat)), (15, .int .i64 (x : Nat))])
      (fun x w' => x ≤ n ∧ ∃ g h, Duo z w' pb g h S) (fun x => n - x) 0 (by repeat (first | exact trivial | refine ⟨rfl, ?_⟩)) ⟨by omega, g, h, D.ext H.fr⟩ ?_
    clear H D
    rintro x w5 ⟨hx, g, h, D⟩ IH
    have H := (Holds.start w5 []).add false D.pr (by simp) (by simp)
    have hlx := sumLag_le S a i (fun x => (hok.way x).2.1)
    by_cases hxn : x < n
    · refine Run.seq ?_
      refine Run.seq ?_
      (refine Run.region ?_; intro K hK)
      refine Ops.pure H (X.move rfl) rfl rfl rfl ?_
      refine Ops.pure H (X.move rfl) rfl rfl rfl ?_
      refine Ops.pure H (X.cmp rfl rfl rfl) rfl rfl rfl ?_
      (refine Ops.nil (hK _ _ ?_); clear hK K)
      refine Run.cond_dec rfl (fun h70 => ?x2) (fun h70 => ?y2)
      case' y2 => exfalso; omega
      case' x2 =>
        refine Run.skip ?_
        refine Run.seq ?_
        refine Run.block ?_
        refine Run.seq ?_
        (refine Run.region ?_; intro K hK)
        refine Ops.pure H (X.move rfl) rfl rfl rfl ?_
        refine Ops.pure H (X.nilCheck rfl) rfl rfl rfl ?_
        refine Ops.pure H (X.fieldAddr rfl rfl rfl rfl rfl rfl) rfl rfl rfl ?_
        refine Ops.pure H (X.load1 rfl rfl rfl rfl Pick.head rfl) rfl rfl rfl ?_
        refine Ops.pure H (X.move rfl) rfl rfl rfl ?_
        refine Ops.pure H (X.move rfl) rfl rfl rfl ?_
      refine Ops.eff rfl (Y.call rfl rfl (by first | assumption | decide +kernel) rfl (Unsure_at _ g (a : Nat) (x : Nat) rfl (D.ap.p.ext H.fr) (by rw [D.ag]; exact hway)) rfl ?_)
      rintro v w6 ⟨hv, g6, st, hab6⟩
      rw [D.ag, if_pos ⟨isN_nat S a (by omega), isN_nat S x (by omega)⟩, if_pos ⟨isN_nat S a (by omega), isN_nat S x (by omega)⟩, Int.toNat_natCast, Int.toNat_natCast] at hv
      subst hv
      have D6 := (D.ext H.fr).step (Both.ofP (D.ext H.fr).ap st) (by rw [hab6, D.ag]) D.ah
      clear H
      have H := Holds.start w6 []
      have hl1 := hlx x
      have hl2 := hlx (x + 1)
      have hle : x * i ≤ 64 * 2199023255488 := Nat.mul_le_mul (by omega) (by omega)
      have hle2 : (x + 1) * i ≤ 64 * 2199023255488 := Nat.mul_le_mul (by omega) (by omega)
      have hsl : sumLag S a (x + 1) = sumLag S a x + ((S.way (a, x)).sent.length - (S.way (a, x)).told) := rfl
      have hcast : ((sumLag S a x : Nat) : Int) + (((S.way (a, x)).sent.length - (S.way (a, x)).told : Nat) : Int) = ((sumLag S a (x + 1) : Nat) : Int) := by rw [hsl]; omega
      refine Ops.pure H (X.move rfl) rfl rfl rfl ?_
      refine Ops.pure H (X.extract rfl rfl) rfl rfl rfl ?_
      refine Ops.pure H (X.extract rfl rfl) rfl rfl rfl ?_
      refine Ops.pure H (X.assign rfl) rfl rfl rfl ?_
      refine Ops.pure H (X.assign rfl) rfl rfl rfl ?_
      (refine Ops.nil (hK _ _ ?_); clear hK K)
      refine Run.seq ?_
      refine Run.seq ?_
      (refine Run.region ?_; intro K hK)
      refine Ops.pure H (X.move rfl) rfl rfl rfl ?_
      refine Ops.pure H (X.cmp rfl rfl rfl) rfl rfl rfl ?_
      (refine Ops.nil (hK _ _ ?_); clear hK K)
      refine Run.cond_false rfl ?_
      refine Run.skip ?_
      (refine Run.region ?_; intro K hK)
      refine Ops.pure H (X.move rfl) rfl rfl rfl ?_
      refine Ops.pure H (X.move rfl) rfl rfl rfl ?_
      refine Ops.pure H (X.add_in rfl rfl (IntWalk.i64_in _ (by omega))) rfl rfl rfl ?_
      refine Ops.pure H (X.assign rfl) rfl rfl rfl ?_
      (refine Ops.nil (hK _ _ ?_); clear hK K)
      refine Run.inBlock ?_
      (refine Run.region ?_; intro K hK)
      refine Ops.pure H (X.move rfl) rfl rfl rfl ?_
      refine Ops.pure H (X.succ rfl rfl (by omega)) rfl rfl rfl ?_
      refine Ops.pure H (X.assign rfl) rfl rfl rfl ?_
      (refine Ops.nil (hK _ _ ?_); clear hK K)
      rw [hcast]
      exact (IH (x + 1) _ (by omega) ⟨by omega, g6, h, D6.ext H.fr⟩).weak (by repeat (first | exact trivial | refine ⟨rfl, ?_⟩))
    · obtain rfl : x = n := by omega
      have hfl4 := hok.fly.1
      have hl1 := hlx x
      have hle : x * i ≤ 64 * 2199023255488 := Nat.mul_le_mul (by omega) (by omega)
      clear hlx
      obtain ⟨T, hT⟩ : ∃ T, T = sumLag S a x := ⟨_, rfl⟩
      rw [← hT] at hl1 ⊢
      refine Run.seq ?_
      refine Run.seq ?_
      (refine Run.region ?_; intro K hK)
      refine Ops.pure H (X.move rfl) rfl rfl rfl ?_
      refine Ops.pure H (X.move rfl) rfl rfl rfl ?_
      refine Ops.pure H (X.cmp rfl rfl rfl) rfl rfl rfl ?_
      (refine Ops.nil (hK _ _ ?_); clear hK K)
      refine Run.cond_dec rfl (fun h70 => ?x3) (fun h70 => ?y3)
      case' y3 =>
        refine Run.exit rfl ?_
        refine Run.seq ?_
        refine Run.seq ?_
        (refine Run.region ?_; intro K hK)
        refine Ops.pure H (X.move rfl) rfl rfl rfl ?_
        refine Ops.pure H (X.nilCheck rfl) rfl rfl rfl ?_
        refine Ops.pure H (X.fieldAddr rfl rfl rfl rfl rfl rfl) rfl rfl rfl ?_
        refine Ops.pure H (X.load1 rfl rfl rfl rfl Pick.head rfl) rfl rfl rfl ?_
      case' x3 => exfalso; omega
      refine Ops.eff rfl (Y.call rfl rfl (by first | assumption | decide +kernel) rfl (flights_at _ g i rfl (D.ap.p.ext H.fr) (by rw [D.ag]; exact hok)) rfl ?_)
      rintro v w6 ⟨hf6, fa, fcap, rfl⟩
      rw [D.ag]
      replace H := H.ext hf6
      by_cases hroom : 2048 ≤ S.fly.length + T
      · have hr2 : (2048 : Int) ≤ ((S.fly.length : Nat) : Int) + ((T : Nat) : Int) := by omega
        refine Ops.pure H (X.len_slice rfl rfl rfl) rfl rfl rfl ?_
        refine Ops.pure H (X.move rfl) rfl rfl rfl ?_
        refine Ops.pure H (X.add_in rfl rfl (IntWalk.i64_in _ (by omega))) rfl rfl rfl ?_
        refine Ops.pure H (X.cmp rfl rfl rfl) rfl rfl rfl ?_
        (refine Ops.nil (hK _ _ ?_); clear hK K)
        refine Run.cond_dec rfl (fun h96 => ?x4) (fun h96 => ?y4)
        case' y4 => exfalso; omega
        case' x4 =>
          refine Run.seq ?_
          (refine Run.region ?_; intro K hK)
          refine Ops.pure H (X.assign rfl) rfl rfl rfl ?_
          (refine Ops.nil (hK _ _ ?_); clear hK K)
        (first | refine Fn.ret1 HF rfl rfl ?_ | refine Fn.ret2 HF rfl rfl rfl ?_ | refine Fn.ret3 HF rfl rfl rfl rfl ?_ | refine Fn.ret0 HF rfl ?_ | refine Fn.fin0 HF rfl ?_ | refine Fn.retG (E := env) HF rfl H (by first | exact RVs.cellN rfl rfl rfl (by first | exact .head | exact .tail .head | exact .tail (.tail .head) | exact .tail (.tail (.tail .head)) | exact .tail (.tail (.tail (.tail .head))) | exact .tail (.tail (.tail (.tail (.tail .head)))) | exact .tail (.tail (.tail (.tail (.tail (.tail .head)))))) (by first | assumption | exact Cs.take rfl) RVs.nil | exact RVs.cellN rfl rfl rfl (by first | exact .head | exact .tail .head | exact .tail (.tail .head) | exact .tail (.tail (.tail .head)) | exact .tail (.tail (.tail (.tail .head))) | exact .tail (.tail (.tail (.tail (.tail .head)))) | exact .tail (.tail (.tail (.tail (.tail (.tail .head)))))) (by first | assumption | exact Cs.take rfl) (RVs.tmp rfl RVs.nil) | exact RVs.cellN rfl rfl rfl (by first | exact .head | exact .tail .head | exact .tail (.tail .head) | exact .tail (.tail (.tail .head)) | exact .tail (.tail (.tail (.tail .head))) | exact .tail (.tail (.tail (.tail (.tail .head)))) | exact .tail (.tail (.tail (.tail (.tail (.tail .head)))))) (by first | assumption | exact Cs.take rfl) (RVs.tmp rfl (RVs.tmp rfl RVs.nil))) rfl ?_)
        exact ⟨rfl, D.fr.then H.fr⟩
      · have hr2 : ¬ (2048 : Int) ≤ ((S.fly.length : Nat) : Int) + ((T : Nat) : Int) := by omega
        refine Ops.pure H (X.len_slice rfl rfl rfl) rfl rfl rfl ?_
        refine Ops.pure H (X.move rfl) rfl rfl rfl ?_
        refine Ops.pure H (X.add_in rfl rfl (IntWalk.i64_in _ (by omega))) rfl rfl rfl ?_
        refine Ops.pure H (X.cmp rfl rfl rfl) rfl rfl rfl ?_
        (refine Ops.nil (hK _ _ ?_); clear hK K)
        refine Run.cond_dec rfl (fun h96 => ?x5) (fun h96 => ?y5)
        case' y5 =>
          refine Run.skip ?_
          refine Run.seq ?_
          refine Run.seq ?_
          (refine Run.region ?_; intro K hK)
          refine Ops.pure H (X.move rfl) rfl rfl rfl ?_
          refine Ops.pure H (X.nilCheck rfl) rfl rfl rfl ?_
          refine Ops.pure H (X.fieldAddr rfl rfl rfl rfl rfl rfl) rfl rfl rfl ?_
          refine Ops.pure H (X.load1 rfl rfl rfl rfl Pick.head rfl) rfl rfl rfl ?_
          refine Ops.pure H (X.move rfl) rfl rfl rfl ?_
        case' x5 => exfalso; omega
        refine Ops.eff rfl (Y.call rfl rfl (by first | assumption | decide +kernel) rfl (tick_at _ g (a : Nat) i rfl (D.ap.p.ext H.fr) (by rw [D.ag]; exact hok) (by omega)) rfl ?_)
        rintro v w7 ⟨hv, g7, st7, hab7⟩
        rw [D.ag] at hv hab7
        have hte : S.tickE (a : Nat) = 0 := by unfold Ns.tickE; rw [if_pos hta]
        rw [hte] at hv
        subst hv
        obtain ⟨hc0, hlen0⟩ := coming_tick hinv (fun x => (hway x).1) hta (by omega : b < S.n) (by rw [hn, ← hT]; omega)
        rw [hn, ← hT] at hlen0
        have hok7 : (S.tick (a : Nat)).Ok i := hok.tick _
        have hinv7 := hinv.tick (a : Nat)
        have hup7 : (S.tick (a : Nat)).up = S.up := by unfold Ns.tick; rw [if_pos hta]; exact (tickTo_n _ _ _).2.2
        have hn7 : (S.tick (a : Nat)).n = x := by unfold Ns.tick; rw [if_pos hta, (tickTo_n _ _ _).1, hn]
        have D7 := (D.solo.ext H.fr).step st7 hab7
        have hwt := wt_le (S.tick (a : Nat)).fly
        clear H
        have H := Holds.start w7 []
        refine Ops.pure H (X.cmp rfl rfl rfl) rfl rfl rfl ?_
        (refine Ops.nil (hK _ _ ?_); clear hK K)
        refine Run.cond_false rfl ?_
        refine Run.skip ?_
        refine Run.seq ?_
        refine Run.seq ?_
        (refine Run.region ?_; intro K hK)
        refine Ops.pure H (X.assign rfl) rfl rfl rfl ?_
        (refine Ops.nil (hK _ _ ?_); clear hK K)
        refine Run.block ?_
        refine Run.rounds (fun (y : Nat) => [(0, .int .i64 (x : Nat)), (9, .pointer (some ⟨pb, 0, none⟩)), (12, .int .i64 (a : Nat)), (13, .int .i64 (b : Nat)), (18, .int .i64 (y : Nat))])
          (fun y w' => ∃ g t, Solo z w' pb (.pointer (some ⟨h.rb, 0, none⟩)) g t ∧ t.Ok (i + y) ∧ t.Inv ∧ Coming t a b ∧ t.up = S.up ∧ t.n = x ∧ t.fly.length ≤ 4000 ∧ wt t.fly + y ≤ 4096) (fun y => 4097 - y) 0 (by repeat (first | exact trivial | refine ⟨rfl, ?_⟩)) ⟨g7, _, D7.ext H.fr, hok7, hinv7, hc0, hup7, hn7, by omega, by omega⟩ ?_
        clear H D7 D IH hab7 hok7 hinv7 hup7 hn7 hwt st7 hc0 hlen0 hte
        rintro y w8 ⟨g8, t, D8, hok8, hinv8, hc8, hup8, hn8, hl8, hwt8⟩ IH
        have H := (Holds.start w8 []).add false D8.pr (by simp) (by simp)
        refine Run.seq ?_
        refine Run.seq ?_
        (refine Run.region ?_; intro K hK)
        refine Ops.pure H (X.move rfl) rfl rfl rfl ?_
        refine Ops.pure H (X.nilCheck rfl) rfl rfl rfl ?_
        refine Ops.pure H (X.fieldAddr rfl rfl rfl rfl rfl rfl) rfl rfl rfl ?_
        refine Ops.pure H (X.load1 rfl rfl rfl rfl Pick.head rfl) rfl rfl rfl ?_
        refine Ops.eff rfl (Y.call rfl rfl (by first | assumption | decide +kernel) rfl (flights_at _ g8 (i + y) rfl (D8.p.ext H.fr) (by rw [D8.ag]; exact hok8)) rfl ?_)
        rintro v w9 ⟨hf9, fa9, fcap9, rfl⟩
        rw [D8.ag]
        replace H := H.ext hf9
        cases hfl : t.fly with
        | nil =>
          simp only [List.length_nil]
          have he := coming_end hc8 hfl
          have hub8 : ∀ x, (g8.abs.way x).told ≤ (g8.abs.way x).sent.length ∧ (g8.abs.way x).sent.length ≤ 4611686018427387903 := fun x => by rw [D8.ag]; obtain ⟨q1, q2, q3, _⟩ := hok8.way x; exact ⟨q3, by omega⟩
          refine Ops.pure H (X.len_slice rfl rfl rfl) rfl rfl rfl ?_
          refine Ops.pure H (X.cmp rfl rfl rfl) rfl rfl rfl ?_
          (refine Ops.nil (hK _ _ ?_); clear hK K)
          refine Run.cond_false rfl ?_
          refine Run.exit rfl ?_
          refine Run.seq ?_
          (refine Run.region ?_; intro K hK)
          refine Ops.pure H (X.move rfl) rfl rfl rfl ?_
          refine Ops.pure H (X.nilCheck rfl) rfl rfl rfl ?_
          refine Ops.pure H (X.fieldAddr rfl rfl rfl rfl rfl rfl) rfl rfl rfl ?_
          refine Ops.pure H (X.load1 rfl rfl rfl rfl Pick.head rfl) rfl rfl rfl ?_
          refine Ops.pure H (X.move rfl) rfl rfl rfl ?_
          refine Ops.pure H (X.move rfl) rfl rfl rfl ?_
          refine Ops.eff rfl (Y.call rfl rfl (by first | assumption | decide +kernel) rfl (Unsure_at _ g8 (a : Nat) (b : Nat) rfl (D8.p.ext H.fr) hub8) rfl ?_)
          rintro v w10 ⟨hv, g10, st10, hab10⟩
          rw [D8.ag, if_pos ⟨isN_nat t a (by omega), isN_nat t b (by omega)⟩, if_pos ⟨isN_nat t a (by omega), isN_nat t b (by omega)⟩, Int.toNat_natCast, Int.toNat_natCast, he, Nat.sub_self] at hv
          subst hv
          have D10 := (D8.ext H.fr).step st10 rfl
          clear H
          have H := Holds.start w10 []
          refine Ops.pure H (X.move rfl) rfl rfl rfl ?_
          refine Ops.pure H (X.extract rfl rfl) rfl rfl rfl ?_
          refine Ops.pure H (X.extract rfl rfl) rfl rfl rfl ?_
          refine Ops.pure H (X.assign rfl) rfl rfl rfl ?_
          refine Ops.pure H (X.assign rfl) rfl rfl rfl ?_
          (refine Ops.nil (hK _ _ ?_); clear hK K)
          refine Run.seq ?_
          (refine Run.region ?_; intro K hK)
          refine Ops.pure H (X.move rfl) rfl rfl rfl ?_
          refine Ops.pure H (X.cmp rfl rfl rfl) rfl rfl rfl ?_
          refine Ops.pure H (X.move rfl) rfl rfl rfl ?_
          refine Ops.pure H (X.move rfl) rfl rfl rfl ?_
          refine Ops.pure H (X.cmp rfl rfl rfl) rfl rfl rfl ?_
          refine Ops.pure H (X.pick_t rfl rfl) rfl rfl rfl ?_
          refine Ops.pure H (X.assign rfl) rfl rfl rfl ?_
          (refine Ops.nil (hK _ _ ?_); clear hK K)
          (first | refine Fn.ret1 HF rfl rfl ?_ | refine Fn.ret2 HF rfl rfl rfl ?_ | refine Fn.ret3 HF rfl rfl rfl rfl ?_ | refine Fn.ret0 HF rfl ?_ | refine Fn.fin0 HF rfl ?_ | refine Fn.retG (E := env) HF rfl H (by first | exact RVs.cellN rfl rfl rfl (by first | exact .head | exact .tail .head | exact .tail (.tail .head) | exact .tail (.tail (.tail .head)) | exact .tail (.tail (.tail (.tail .head))) | exact .tail (.tail (.tail (.tail (.tail .head)))) | exact .tail (.tail (.tail (.tail (.tail (.tail .head)))))) (by first | assumption | exact Cs.take rfl) RVs.nil | exact RVs.cellN rfl rfl rfl (by first | exact .head | exact .tail .head | exact .tail (.tail .head) | exact .tail (.tail (.tail .head)) | exact .tail (.tail (.tail (.tail .head))) | exact .tail (.tail (.tail (.tail (.tail .head)))) | exact .tail (.tail (.tail (.tail (.tail (.tail .head)))))) (by first | assumption | exact Cs.take rfl) (RVs.tmp rfl RVs.nil) | exact RVs.cellN rfl rfl rfl (by first | exact .head | exact .tail .head | exact .tail (.tail .head) | exact .tail (.tail (.tail .head)) | exact .tail (.tail (.tail (.tail .head))) | exact .tail (.tail (.tail (.tail (.tail .head)))) | exact .tail (.tail (.tail (.tail (.tail (.tail .head)))))) (by first | assumption | exact Cs.take rfl) (RVs.tmp rfl (RVs.tmp rfl RVs.nil))) rfl ?_)
          exact ⟨by simp, D10.fr.then H.fr⟩
        | cons p rest =>
          simp only [List.length_cons]
          have G := deliver_grown hfl (by rw [hfl] at hl8; simp at hl8; omega)
          have hwt9 : wt t.fly = (if p.ack then 1 else 2) + wt rest := by rw [hfl]; simp [wt]
          have hp1 : 1 ≤ (if p.ack = true then 1 else 2) := by split <;> omega
          have hGl := G.len
          have hGw := G.wt
          have hrl : rest.length + 1 = t.fly.length := by rw [hfl]; rfl
          have hfe : t.flE 0 = 0 := by unfold Ns.flE Ns.inF; rw [hfl]; simp
          have hstep := coming_step hinv8 (fun x => (hok8.way x).2.2.1) (by rw [hup8]; exact hua) (by rw [hup8]; exact hub) hfl (by omega) hc8
          refine Ops.pure H (X.len_slice rfl rfl rfl) rfl rfl rfl ?_
          refine Ops.pure H (X.cmp rfl rfl rfl) rfl rfl rfl ?_
          (refine Ops.nil (hK _ _ ?_); clear hK K)
          refine Run.cond_dec rfl (fun h110 => ?x6) (fun h110 => ?y6)
          case' y6 => exfalso; omega
          case' x6 =>
            refine Run.skip ?_
            refine Run.seq ?_
            refine Run.block ?_
            refine Run.seq ?_
            (refine Run.region ?_; intro K hK)
            refine Ops.pure H (X.move rfl) rfl rfl rfl ?_
            refine Ops.pure H (X.cmp rfl rfl rfl) rfl rfl rfl ?_
            refine Ops.pure H (X.move rfl) rfl rfl rfl ?_
            refine Ops.split_dec rfl rfl (fun h116 => ?x7) (fun h116 => ?y7)
            case' y7 =>
              refine Ops.pure H (X.move rfl) rfl rfl rfl ?_
              refine Ops.pure H (X.nilCheck rfl) rfl rfl rfl ?_
              refine Ops.pure H (X.fieldAddr rfl rfl rfl rfl rfl rfl) rfl rfl rfl ?_
              refine Ops.pure H (X.load1 rfl rfl rfl rfl Pick.head rfl) rfl rfl rfl ?_
            case' x7 => exfalso; omega
          refine Ops.eff rfl (Y.call rfl rfl (by first | assumption | decide +kernel) rfl (deliver_at _ g8 0 (i + y) rfl (D8.p.ext H.fr) (by rw [D8.ag]; exact hok8) (by omega)) rfl ?_)
          rintro v w10 ⟨hv, g10, st10, hab10⟩
          rw [D8.ag] at hv hab10
          rw [hfe] at hv
          subst hv
          have D10 := (D8.ext H.fr).step st10 hab10
          clear H
          have H := Holds.start w10 []
          refine Ops.pure H (X.cmp rfl rfl rfl) rfl rfl rfl ?_
          refine Ops.pure H (X.pick_f rfl rfl) rfl rfl rfl ?_
          (refine Ops.nil (hK _ _ ?_); clear hK K)
          refine Run.cond_false rfl ?_
          refine Run.skip ?_
          refine Run.inBlock ?_
          (refine Run.region ?_; intro K hK)
          refine Ops.pure H (X.move rfl) rfl rfl rfl ?_
          refine Ops.pure H (X.succ rfl rfl (by omega)) rfl rfl rfl ?_
          refine Ops.pure H (X.assign rfl) rfl rfl rfl ?_
          (refine Ops.nil (hK _ _ ?_); clear hK K)
          exact (IH (y + 1) _ (by omega) ⟨g10, _, D10.ext H.fr, hok8.deliver 0, hinv8.deliver 0, hstep, G.up.trans hup8, G.n.trans hn8, by omega, by omega⟩).weak (by repeat (first | exact trivial | refine ⟨rfl, ?_⟩))
end Go.Proofs.Ytpmihcefjdeonaa
