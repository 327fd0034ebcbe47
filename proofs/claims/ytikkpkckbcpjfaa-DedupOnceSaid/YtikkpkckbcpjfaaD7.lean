/- Walks: DedupApart. -/
import Derived.Test.YtikkpkckbcpjfaaD6
namespace Go.Proofs.Ytikkpkckbcpjfaa
open Go
set_option maxRecDepth 20000
set_option maxHeartbeats 2000000
attribute [local irreducible] Run Ops Fn Draw Draw2 PureOp StepZ

structure DA where
  kind : Int
  client : Int
  seq : Int
  v : Value
  xs : List Int
def daC (a : DA) : List Value := [.int .i64 a.kind, .int .u64 a.client, .int .u64 a.seq, a.v]
/-- A slice of acts. -/
def DActs (w : World) (a : Option Addr) (n b off : Nat) (cs : List Value) (T : TypeId) (fz : Nat × Nat) (A : Nat → DA) : Prop :=
  n ≤ 9223372036854775807 ∧ (0 < n → a = some ⟨b, off, none⟩ ∧ w.heap[b]? = some (.cells (List.toArray cs) T fz)) ∧ ∀ j, j < n → Cs cs (off + j * 4) 4 (daC (A j)) ∧ Bys w (A j).v (A j).xs ∧ (A j).xs.length ≤ 140737488355327
/-- The client's own: is it known? -/
def indC (s : Option CS) : Nat := if s.isSome then 1 else 0
theorem putE_same {N M : Nat} {s : Option CS} {seq : Int} {bs : List Int} (hN : s = none → N < 1024) (hM : s = none → M < 1024) : putE N s seq bs = putE M s seq bs := by
  unfold putE
  cases s with
  | none =>
    have := hN rfl
    have := hM rfl
    simp
    omega
  | some c => simp
theorem putS_same {n : Int} {N M : Nat} {s : Option CS} {seq : Int} {bs : List Int} (hN : s = none → N < 1024) (hM : s = none → M < 1024) : putS n N s seq bs = putS n M s seq bs := by
  unfold putS
  rw [putE_same hN hM]
theorem putN_le {N : Nat} {s : Option CS} {seq : Int} {bs : List Int} : putN N s seq bs ≤ N + 1 := by
  unfold putN
  split <;> omega
theorem putN_ind {n : Int} {N k : Nat} {s : Option CS} {seq : Int} {bs : List Int} (h : N ≤ k + indC s) : putN N s seq bs ≤ k + indC (putS n N s seq bs) := by
  unfold putN putS
  by_cases he : putE N s seq bs = 0
  · rw [if_pos he]
    cases s with
    | none => simp [he, indC] at h ⊢; omega
    | some c => simp [indC] at h ⊢; omega
  · rw [if_neg (fun hh => he hh.1), if_neg he]
    exact h
/-- What the numbers of a window keep. -/
def Short (n : Int) (s : Option CS) : Prop := ∀ c, s = some c → (c.seqs.length : Int) ≤ n ∧ ∀ x xs, c.ans x = some xs → xs.length ≤ 65536
theorem bsGo_le (xs : List Int) (t : Int) : ∀ k lo hi, lo ≤ hi → hi ≤ xs.length → bsGo xs t k lo hi ≤ xs.length := by
  intro k
  induction k with
  | zero => intro lo hi h1 h2; simp [bsGo]; omega
  | succ k ih =>
    intro lo hi h1 h2
    unfold bsGo
    split
    · split
      · exact ih _ _ (by omega) h2
      · exact ih _ _ (by omega) (by omega)
    · omega
theorem bsL_le (xs : List Int) (t : Int) : bsL xs t ≤ xs.length := bsGo_le xs t _ _ _ (by omega) (by omega)
theorem insC_short {n : Int} {s : CS} {seq : Int} {bs : List Int} (h : (s.seqs.length : Int) ≤ n) (ha : ∀ x xs, s.ans x = some xs → xs.length ≤ 65536) (hb : bs.length ≤ 65536) : ((insC n s seq bs).seqs.length : Int) ≤ n ∧ ∀ x xs, (insC n s seq bs).ans x = some xs → xs.length ≤ 65536 := by
  have hl := insL_len (x := seq) (bsL_le s.seqs seq)
  have hu : ∀ x xs, updA s.ans seq (some bs) x = some xs → xs.length ≤ 65536 := by
    intro x xs hx
    unfold updA at hx
    split at hx
    · cases hx; exact hb
    · exact ha x xs hx
  unfold insC
  split
  · refine ⟨by simp; omega, fun x xs hx => ?_⟩
    dsimp only at hx
    rw [updA] at hx
    split at hx
    · cases hx
    · exact hu x xs hx
  · exact ⟨by dsimp only; omega, hu⟩
theorem putS_short {n : Int} {N : Nat} {s : Option CS} {seq : Int} {bs : List Int} (h1 : 1 ≤ n) (h : Short n s) : Short n (putS n N s seq bs) := by
  unfold putS
  split
  · rename_i he
    have hb : bs.length ≤ 65536 := by
      unfold putE at he
      split at he
      · omega
      · split at he
        · omega
        · omega
    intro c hc
    cases hc
    cases s with
    | none => exact insC_short (by simp [cs0]; omega) (by simp [cs0]) hb
    | some c => exact insC_short (h c rfl).1 (h c rfl).2 hb
  · exact h
/-- Two windows. -/
structure Two (z w : World) (n : Int) (W A : WS) : Prop where
  fr : Fr z w []
  pw : Wn w W
  pa : Wn w A
  dj : Dj W A
  gw : ∀ b, Foot W b → z.heap.size ≤ b
  ga : ∀ b, Foot A b → z.heap.size ≤ b
  nw : W.size = n
  na : A.size = n
  sw : ∀ id, Short n (st W id)
  sa : ∀ id, Short n (st A id)
theorem Two.ext {z w w' : World} {n : Int} {W A : WS} (h : Two z w n W A) (hf : Fr w w' []) : Two z w' n W A :=
  ⟨h.fr.then hf, h.pw.ext hf, h.pa.ext hf, h.dj, h.gw, h.ga, h.nw, h.na, h.sw, h.sa⟩
theorem Two.swap {z w : World} {n : Int} {W A : WS} (h : Two z w n W A) : Two z w n A W :=
  ⟨h.fr, h.pa, h.pw, fun b hb hb' => h.dj b hb' hb, h.ga, h.gw, h.na, h.nw, h.sa, h.sw⟩
theorem two_put (z w : World) (n : Int) (W A : WS) (id seq : Int) (V : Value) (bs : List Int) (h : Two z w n W A) (hV : Ans w V bs) (h1 : 1 ≤ n) (h2 : n ≤ 64) :
    Fn env.P 7 [.pointer (some ⟨W.wb, 0, none⟩), .int .u64 id, .int .u64 seq, V] w fun v w' => v = .int .i64 (putE W.N (st W id) seq bs) ∧ ∃ W', W'.wb = W.wb ∧ Two z w' n W' A ∧ st W' id = putS n W.N (st W id) seq bs ∧ (∀ y, y ≠ id → st W' y = st W y) ∧ W'.N = putN W.N (st W id) seq bs ∧ Fr w w' (footP W id) := by
  refine (put_any w W id seq V bs h.pw hV (by rw [h.nw]; exact h1) (by rw [h.nw]; exact h2) (st_len rfl (fun c hc => by rw [h.nw]; exact (h.sw id c hc).1))).mono ?_
  rintro v w' ⟨e1, e2, m', e3, e4, e5, e6⟩
  have hst : ∀ y, y ≠ id → st { W with m := m', N := putN W.N (st W id) seq bs } y = st W y := fun y hy => by
    show (m' y).map _ = (W.m y).map _
    rw [e4 y hy]
  have hst' : st { W with m := m', N := putN W.N (st W id) seq bs } id = putS n W.N (st W id) seq bs := by rw [← h.nw]; exact e5
  have hft : ∀ {b : Nat}, Foot { W with m := m', N := putN W.N (st W id) seq bs } b → Foot W b ∨ w.heap.size ≤ b := fun hb => PutPost.foot e4 e6 hb
  refine ⟨e1, { W with m := m', N := putN W.N (st W id) seq bs }, rfl, ⟨h.fr.grow e2 (fun b hb => h.gw b (footP_foot hb)), e3, h.pw.other h.pa h.dj e2 (fun b hb => footP_foot hb), fun b hb hb' => ?_, fun b hb => ?_, h.ga, h.nw, h.na, fun y => ?_, h.sa⟩, hst', hst, rfl, e2⟩
  · rcases hft hb with hb | hb
    · exact h.dj b hb hb'
    · have := h.pa.lt hb'
      omega
  · rcases hft hb with hb | hb
    · exact h.gw b hb
    · exact Nat.le_trans h.fr.size hb
  · by_cases e : y = id
    · subst e
      rw [hst']
      exact putS_short h1 (h.sw y)
    · rw [hst y e]
      exact h.sw y
theorem askB_short {n : Int} {s : Option CS} {seq : Int} (h : Short n s) : (askB s seq).length ≤ 65536 := by
  unfold askB
  cases s with
  | none => simp
  | some c =>
    dsimp only
    split
    · simp
    · cases ha : c.ans seq with
      | none => simp
      | some xs => simpa using (h c rfl).2 seq xs ha

theorem apart_no (z : World) (n : Int) (V : Value) (c : Int) (hn : ¬ (1 ≤ n ∧ n ≤ 64)) :
    Fn env.P 3 [.int .i64 n, V, .int .u64 c] z fun v w' => v = .bool true ∧ Fr z w' [] := by
  have H := Holds.start z []
  have HF := Try.func3; refine Fn.enter Try.func3 Try.ntmps3 rfl rfl rfl ?_
  refine Run.seq ?_
  (refine Run.region ?_; intro K hK)
  refine Ops.pure H (X.assign rfl) rfl rfl rfl ?_
  (refine Ops.nil (hK _ _ ?_); clear hK K)
  refine Run.seq ?_
  refine Run.seq ?_
  (refine Run.region ?_; intro K hK)
  refine Ops.eff rfl (Y.call rfl rfl (by first | assumption | decide +kernel) rfl (lives_any _) rfl ?_)
  rintro v w1 ⟨rfl, hf1⟩
  replace H := H.ext hf1
  refine Ops.pure H (X.not rfl) rfl rfl rfl ?_
  (refine Ops.nil (hK _ _ ?_); clear hK K)
  refine Run.cond_false rfl ?_
  refine Run.skip ?_
  refine Run.seq ?_
  (refine Run.region ?_; intro K hK)
  refine Ops.pure H (X.move rfl) rfl rfl rfl ?_
  refine Ops.eff rfl (Y.call rfl rfl (by first | assumption | decide +kernel) rfl (new_no _ n hn) rfl ?_)
  rintro v w2 ⟨rfl, hf2⟩
  replace H := H.ext hf2
  refine Ops.pure H (X.move rfl) rfl rfl rfl ?_
  refine Ops.pure H (X.extract rfl rfl) rfl rfl rfl ?_
  refine Ops.pure H (X.extract rfl rfl) rfl rfl rfl ?_
  refine Ops.pure H (X.assign rfl) rfl rfl rfl ?_
  refine Ops.pure H (X.assign rfl) rfl rfl rfl ?_
  (refine Ops.nil (hK _ _ ?_); clear hK K)
  refine Run.seq ?_
  (refine Run.region ?_; intro K hK)
  refine Ops.pure H (X.move rfl) rfl rfl rfl ?_
  refine Ops.eff rfl (Y.call rfl rfl (by first | assumption | decide +kernel) rfl (new_no _ n hn) rfl ?_)
  rintro v w3 ⟨rfl, hf3⟩
  replace H := H.ext hf3
  refine Ops.pure H (X.move rfl) rfl rfl rfl ?_
  refine Ops.pure H (X.extract rfl rfl) rfl rfl rfl ?_
  refine Ops.pure H (X.extract rfl rfl) rfl rfl rfl ?_
  refine Ops.pure H (X.assign rfl) rfl rfl rfl ?_
  refine Ops.pure H (X.assign rfl) rfl rfl rfl ?_
  (refine Ops.nil (hK _ _ ?_); clear hK K)
  refine Run.seq ?_
  refine Run.seq ?_
  (refine Run.region ?_; intro K hK)
  refine Ops.pure H (X.move rfl) rfl rfl rfl ?_
  refine Ops.pure H (X.cmp rfl rfl rfl) rfl rfl rfl ?_
  refine Ops.pure H (X.move rfl) rfl rfl rfl ?_
  refine Ops.pass rfl rfl rfl ?_
  refine Ops.pass rfl rfl rfl ?_
  refine Ops.pure H (X.pick_t rfl rfl) rfl rfl rfl ?_
  refine Ops.pure H (X.move rfl) rfl rfl rfl ?_
  refine Ops.pass rfl rfl rfl ?_
  refine Ops.pass rfl rfl rfl ?_
  refine Ops.pure H (X.pick_t rfl rfl) rfl rfl rfl ?_
  refine Ops.pure H (X.move rfl) rfl rfl rfl ?_
  refine Ops.pass rfl rfl rfl ?_
  refine Ops.pass rfl rfl rfl ?_
  refine Ops.pure H (X.pick_t rfl rfl) rfl rfl rfl ?_
  (refine Ops.nil (hK _ _ ?_); clear hK K)
  refine Run.cond_true rfl ?_
  refine Run.seq ?_
  (refine Run.region ?_; intro K hK)
  refine Ops.pure H (X.move rfl) rfl rfl rfl ?_
  refine Ops.pure H (X.move rfl) rfl rfl rfl ?_
  refine Ops.pure H (X.cmp rfl rfl rfl) rfl rfl rfl ?_
  refine Ops.pure H (X.move rfl) rfl rfl rfl ?_
  refine Ops.pure H (X.move rfl) rfl rfl rfl ?_
  refine Ops.pure H (X.cmp rfl rfl rfl) rfl rfl rfl ?_
  refine Ops.pure H (X.pick_t rfl rfl) rfl rfl rfl ?_
  refine Ops.pure H (X.assign rfl) rfl rfl rfl ?_
  (refine Ops.nil (hK _ _ ?_); clear hK K)
  (first | refine Fn.ret1 HF rfl rfl ?_ | refine Fn.ret2 HF rfl rfl rfl ?_ | refine Fn.ret3 HF rfl rfl rfl rfl ?_ | refine Fn.ret0 HF rfl ?_ | refine Fn.fin0 HF rfl ?_ | refine Fn.retG (E := env) HF rfl H (by first | exact RVs.cellN rfl rfl rfl (by first | exact .head | exact .tail .head | exact .tail (.tail .head) | exact .tail (.tail (.tail .head)) | exact .tail (.tail (.tail (.tail .head))) | exact .tail (.tail (.tail (.tail (.tail .head)))) | exact .tail (.tail (.tail (.tail (.tail (.tail .head)))))) (by first | assumption | exact Cs.take rfl) RVs.nil | exact RVs.cellN rfl rfl rfl (by first | exact .head | exact .tail .head | exact .tail (.tail .head) | exact .tail (.tail (.tail .head)) | exact .tail (.tail (.tail (.tail .head))) | exact .tail (.tail (.tail (.tail (.tail .head)))) | exact .tail (.tail (.tail (.tail (.tail (.tail .head)))))) (by first | assumption | exact Cs.take rfl) (RVs.tmp rfl RVs.nil)) rfl ?_)
  exact ⟨by simp, H.fr⟩
theorem apart_yes (z : World) (n : Int) (aa : Option Addr) (an acap ab aoff : Nat) (acs : List Value) (aT : TypeId) (afz : Nat × Nat) (A : Nat → DA) (cl : Int) (hA : DActs z aa an ab aoff acs aT afz A) (h1 : 1 ≤ n) (h2 : n ≤ 64) :
    Fn env.P 3 [.int .i64 n, .slice aa an acap, .int .u64 cl] z fun v w' => v = .bool true ∧ Fr z w' [] := by
  have hanm := hA.1
  have H := Holds.start z []
  have HF := Try.func3; refine Fn.enter Try.func3 Try.ntmps3 rfl rfl rfl ?_
  refine Run.seq ?_
  (refine Run.region ?_; intro K hK)
  refine Ops.pure H (X.assign rfl) rfl rfl rfl ?_
  (refine Ops.nil (hK _ _ ?_); clear hK K)
  refine Run.seq ?_
  refine Run.seq ?_
  (refine Run.region ?_; intro K hK)
  refine Ops.eff rfl (Y.call rfl rfl (by first | assumption | decide +kernel) rfl (lives_any _) rfl ?_)
  rintro v w1 ⟨rfl, hf1⟩
  replace H := H.ext hf1
  refine Ops.pure H (X.not rfl) rfl rfl rfl ?_
  (refine Ops.nil (hK _ _ ?_); clear hK K)
  refine Run.cond_false rfl ?_
  refine Run.skip ?_
  refine Run.seq ?_
  (refine Run.region ?_; intro K hK)
  refine Ops.pure H (X.move rfl) rfl rfl rfl ?_
  refine Ops.eff rfl (Y.call rfl rfl (by first | assumption | decide +kernel) rfl (new_yes _ n h1 h2) rfl ?_)
  rintro v w2 ⟨wb, mb, rfl, hW2, hf2, hwb, hmb⟩
  have hz1 := H.fr.size
  replace H := H.ext hf2
  have hz2 := H.fr.size
  have hF2 := H.fr
  replace H := H.anew (S' := []) (G' := []) (by repeat constructor) (by simp)
  refine Ops.pure H (X.move rfl) rfl rfl rfl ?_
  refine Ops.pure H (X.extract rfl rfl) rfl rfl rfl ?_
  refine Ops.pure H (X.extract rfl rfl) rfl rfl rfl ?_
  refine Ops.pure H (X.assign rfl) rfl rfl rfl ?_
  refine Ops.pure H (X.assign rfl) rfl rfl rfl ?_
  (refine Ops.nil (hK _ _ ?_); clear hK K)
  refine Run.seq ?_
  (refine Run.region ?_; intro K hK)
  refine Ops.pure H (X.move rfl) rfl rfl rfl ?_
  refine Ops.eff rfl (Y.call rfl rfl (by first | assumption | decide +kernel) rfl (new_yes _ n h1 h2) rfl ?_)
  rintro v w3 ⟨wb', mb', rfl, hA3, hf3, hwb', hmb'⟩
  have hW3 := (hW2.ext H.fr).ext hf3
  have hs2 := H.fr.size
  replace H := H.ext hf3
  have hF3 := hF2.then H.fr
  have hlw := hW2.lt (.inl rfl)
  have hlm := hW2.lt (.inr (.inl rfl))
  dsimp only at hlw hlm
  have hT3 : Two z w3 n ⟨wb, mb, n, 0, fun _ => none⟩ ⟨wb', mb', n, 0, fun _ => none⟩ := by
    refine ⟨hF3, hW3, hA3, ?_, ?_, ?_, rfl, rfl, (fun id c hc => by cases hc), (fun id c hc => by cases hc)⟩
    · rintro b (rfl | rfl | ⟨x, c, hx, _⟩) (e | e | ⟨x', c', hx', _⟩)
      all_goals first | (cases hx; done) | (cases hx'; done) | (dsimp only at e; omega)
    · rintro b (rfl | rfl | ⟨x, c, hx, _⟩)
      · exact Nat.le_trans hz1 hwb
      · exact Nat.le_trans hz1 hmb
      · cases hx
    · rintro b (rfl | rfl | ⟨x, c, hx, _⟩)
      · exact Nat.le_trans hz2 (Nat.le_trans hs2 hwb')
      · exact Nat.le_trans hz2 (Nat.le_trans hs2 hmb')
      · cases hx
  clear H
  have H := Holds.start w3 []
  refine Ops.pure H (X.move rfl) rfl rfl rfl ?_
  refine Ops.pure H (X.extract rfl rfl) rfl rfl rfl ?_
  refine Ops.pure H (X.extract rfl rfl) rfl rfl rfl ?_
  refine Ops.pure H (X.assign rfl) rfl rfl rfl ?_
  refine Ops.pure H (X.assign rfl) rfl rfl rfl ?_
  (refine Ops.nil (hK _ _ ?_); clear hK K)
  refine Run.seq ?_
  refine Run.seq ?_
  (refine Run.region ?_; intro K hK)
  refine Ops.pure H (X.move rfl) rfl rfl rfl ?_
  refine Ops.pure H (X.cmp rfl rfl rfl) rfl rfl rfl ?_
  refine Ops.pure H (X.move rfl) rfl rfl rfl ?_
  refine Ops.pure H (X.move rfl) rfl rfl rfl ?_
  refine Ops.pure H (X.cmp rfl rfl rfl) rfl rfl rfl ?_
  refine Ops.pure H (X.pick_f rfl rfl) rfl rfl rfl ?_
  refine Ops.pure H (X.move rfl) rfl rfl rfl ?_
  refine Ops.pure H (X.move rfl) rfl rfl rfl ?_
  refine Ops.pure H (X.ptrNil rfl rfl rfl rfl rfl) rfl rfl rfl ?_
  refine Ops.pure H (X.pick_f rfl rfl) rfl rfl rfl ?_
  refine Ops.pure H (X.move rfl) rfl rfl rfl ?_
  refine Ops.pure H (X.move rfl) rfl rfl rfl ?_
  refine Ops.pure H (X.ptrNil rfl rfl rfl rfl rfl) rfl rfl rfl ?_
  refine Ops.pure H (X.pick_f rfl rfl) rfl rfl rfl ?_
  (refine Ops.nil (hK _ _ ?_); clear hK K)
  refine Run.cond_false rfl ?_
  refine Run.skip ?_
  refine Run.seq ?_
  (refine Run.region ?_; intro K hK)
  refine Ops.pure H (X.assign rfl) rfl rfl rfl ?_
  (refine Ops.nil (hK _ _ ?_); clear hK K)
  refine Run.seq ?_
  refine Run.seq ?_
  (refine Run.region ?_; intro K hK)
  refine Ops.pure H (X.assign rfl) rfl rfl rfl ?_
  (refine Ops.nil (hK _ _ ?_); clear hK K)
  refine Run.block ?_
  refine Run.rounds (fun (s : Nat × Nat × WS × WS) => [(1, .slice aa an acap), (2, .int .u64 cl), (7, .pointer (some ⟨s.2.2.1.wb, 0, none⟩)), (9, .pointer (some ⟨s.2.2.2.wb, 0, none⟩)), (11, .int .i64 (s.2.1 : Nat)), (12, .int .i64 (s.1 : Nat))])
    (fun s w' => s.1 ≤ an ∧ s.2.1 ≤ s.1 ∧ Two z w' n s.2.2.1 s.2.2.2 ∧ (s.2.1 < 1024 → st s.2.2.1 cl = st s.2.2.2 cl ∧ s.2.2.1.N ≤ s.2.1 + indC (st s.2.2.1 cl) ∧ s.2.2.2.N ≤ indC (st s.2.2.2 cl)))
    (fun s => an - s.1) (0, 0, _, _) (by repeat (first | exact trivial | refine ⟨rfl, ?_⟩)) ⟨by dsimp only; omega, by dsimp only; omega, hT3.ext H.fr, fun _ => ⟨rfl, by simp, by simp⟩⟩ ?_
  clear H hT3 hW2 hW3 hA3 hF2 hF3 hwb hmb hwb' hmb' hlw hlm hf1 hf2 hf3 hz1 hz2 hs2
  rintro ⟨i, k, W, B⟩ w4 ⟨hi, hki, hT, hK'⟩ IH
  dsimp only at hi hki hT hK' IH ⊢
  by_cases hlt : i < an
  · obtain ⟨hcs, hxs, hxl⟩ := hA.2.2 i hlt
    obtain ⟨rfl, hab⟩ := hA.2.1 (by omega)
    generalize A i = ai at hcs hxs hxl
    obtain ⟨kind, cid, seq, av, xs⟩ := ai
    dsimp only at hcs hxs hxl
    obtain ⟨xa, xcap, rfl⟩ : ∃ a c, av = .slice a xs.length c := by
      obtain ⟨a, c, _, _, _, _, _, e, _⟩ := hxs
      exact ⟨a, c, e⟩
    simp only [daC] at hcs
    have hab4 := hT.fr.get hab (by simp)
    have H := (Holds.start w4 []).add false hab4 (by simp) (by simp)
    refine Run.seq ?_
    refine Run.seq ?_
    (refine Run.region ?_; intro K hK)
    refine Ops.pure H (X.move rfl) rfl rfl rfl ?_
    refine Ops.pure H (X.move rfl) rfl rfl rfl ?_
    refine Ops.pure H (X.len_slice rfl rfl rfl) rfl rfl rfl ?_
    refine Ops.pure H (X.cmp rfl rfl rfl) rfl rfl rfl ?_
    (refine Ops.nil (hK _ _ ?_); clear hK K)
    refine Run.cond_dec rfl (fun h58 => ?x0) (fun h58 => ?y0)
    case' y0 => exfalso; omega
    case' x0 =>
      refine Run.skip ?_
      refine Run.seq ?_
      refine Run.block ?_
      refine Run.seq ?_
      (refine Run.region ?_; intro K hK)
      refine Ops.pure H (X.move rfl) rfl rfl rfl ?_
      refine Ops.pure H (X.move rfl) rfl rfl rfl ?_
      refine Ops.pure H (X.indexAddr rfl rfl (by omega) rfl rfl rfl rfl) rfl rfl rfl ?_
      refine Ops.pure H (X.loadN rfl rfl rfl Pick.head (by assumption)) rfl rfl rfl ?_
      (refine Ops.eff rfl (Y.alloc rfl rfl rfl H ?_); intro b13 w H0 hb13; clear H; have H := H0; clear H0)
      (refine Ops.eff rfl (Y.storeO rfl rfl rfl rfl rfl rfl H Upd.head rfl ?_); intro w H0; clear H; have H := H0; clear H0)
      (refine Ops.nil (hK _ _ ?_); clear hK K)
    replace hT := hT.ext H.fr
    replace H := H.anew (S' := []) (G' := [⟨_, _, false⟩, ⟨_, _, false⟩]) (by repeat constructor) (by simp)
    refine Run.seq ?_
    (refine Run.draw H [] [0, 1, 2, 3, 4, 5, 6, 7, 8, 9] ?_; clear H; intro K hK w H)
    refine Draw.take0 rfl (X.move rfl) rfl rfl rfl (by decide +kernel) ?_
    refine Draw.take0 rfl (X.fieldAddr rfl rfl rfl rfl rfl rfl) rfl rfl rfl (by decide +kernel) ?_
    refine Draw.take rfl (X.load1 rfl rfl rfl rfl Pick.head rfl) rfl rfl rfl (by decide +kernel) ?_
    refine Draw.take0 rfl (X.fieldAddr rfl rfl rfl rfl rfl rfl) rfl rfl rfl (by decide +kernel) ?_
    refine Draw.take rfl (X.load1 rfl rfl rfl rfl Pick.head rfl) rfl rfl rfl (by decide +kernel) ?_
    refine Draw.take0 rfl (X.fieldAddr rfl rfl rfl rfl rfl rfl) rfl rfl rfl (by decide +kernel) ?_
    refine Draw.take rfl (X.load1 rfl rfl rfl rfl Pick.head rfl) rfl rfl rfl (by decide +kernel) ?_
    refine Draw.eff rfl rfl (by decide +kernel) (Y.call rfl rfl (by first | assumption | decide +kernel) rfl (own_any _ _ xs (hxs.ext (hT.fr.then H.fr)) hxl) rfl ?_)
    rintro v w5 ⟨hA5, hf5⟩
    obtain ⟨va, vcap, rfl⟩ := hA5.slice
    replace H := H.ext hf5
    refine ⟨H.at_, ?_⟩
    replace hT := hT.ext H.fr
    skip
    refine Draw.eff rfl rfl (by decide +kernel) (Y.call rfl rfl (by first | assumption | decide +kernel) rfl (two_put z _ n W B cid seq _ xs hT hA5 h1 h2) rfl ?_)
    rintro v w6 ⟨rfl, W', hwb', hT6, hs1, hs2, hN6, hf6⟩
    have hb6 := hf6.get (H.pick .head) (fun hm => by
      have hb := H.pick .head
      rcases hT.pw.foot (footP_foot hm) with ⟨_, _, e⟩ | ⟨_, e⟩ | ⟨_, e⟩ | ⟨_, e⟩
      · rw [e] at hb; cases hb
      · exact ne_of_ty hb e (by decide) rfl
      · exact ne_of_ty hb e (by decide) rfl
      · exact ne_of_ty hb e (by decide) rfl)
    have hab6 := hT6.fr.get hab (by simp)
    have hnd := H.nd
    clear H
    have H := ((Holds.start w6 []).add false hab6 (by simp) (by simp)).add false hb6 (by simpa [List.pairwise_cons] using hnd) (by simp)
    refine ⟨H.at_, ?_⟩
    rw [← hwb']
    refine Draw.take0 rfl (X.assign rfl) rfl rfl rfl (by decide +kernel) ?_
    (refine Draw.done (by decide +kernel) (hK _ _ ?_); clear hK K)
    refine Run.seq ?_
    refine Run.seq ?_
    (refine Run.region ?_; intro K hK)
    refine Ops.pure H (X.fieldAddr rfl rfl rfl rfl rfl rfl) rfl rfl rfl ?_
    refine Ops.pure H (X.load1 rfl rfl rfl rfl Pick.head rfl) rfl rfl rfl ?_
    refine Ops.pure H (X.move rfl) rfl rfl rfl ?_
    refine Ops.pure H (X.cmp rfl rfl rfl) rfl rfl rfl ?_
    (refine Ops.nil (hK _ _ ?_); clear hK K)
    refine Run.cond_ndec rfl (fun h77 => ?x1) (fun h77 => ?y1)
    case' y1 =>
      refine Run.skip ?_
      refine Run.seq ?_
      (refine Run.draw H [] [0, 1, 2, 3, 4, 5, 6, 7, 8, 9, 12, 10, 11, 13, 14] ?_; clear H; intro K hK w H)
      refine Draw.take0 rfl (X.move rfl) rfl rfl rfl (by decide +kernel) ?_
      refine Draw.take0 rfl (X.cmp rfl rfl rfl) rfl rfl rfl (by decide +kernel) ?_
      refine Draw.take0 rfl (X.move rfl) rfl rfl rfl (by decide +kernel) ?_
      refine Draw.split_dec rfl rfl rfl (fun h83 => ?x2) (fun h83 => ?y2)
      case' y2 =>
        refine Draw.pass rfl rfl rfl rfl (by decide +kernel) ?_
        refine Draw.pass rfl rfl rfl rfl (by decide +kernel) ?_
        refine Draw.pass rfl rfl rfl rfl (by decide +kernel) ?_
        refine Draw.pass rfl rfl rfl rfl (by decide +kernel) ?_
        refine Draw.pass rfl rfl rfl rfl (by decide +kernel) ?_
        refine Draw.pass rfl rfl rfl rfl (by decide +kernel) ?_
        refine Draw.pass rfl rfl rfl rfl (by decide +kernel) ?_
        refine Draw.pass rfl rfl rfl rfl (by decide +kernel) ?_
        refine Draw.pass rfl rfl rfl rfl (by decide +kernel) ?_
        refine Draw.pass rfl rfl rfl rfl (by decide +kernel) ?_
        refine Draw.pass rfl rfl rfl rfl (by decide +kernel) ?_
        refine Draw.take0 rfl (X.pick_f rfl rfl) rfl rfl rfl (by decide +kernel) ?_
        (refine Draw.done (by decide +kernel) (hK _ _ ?_); clear hK K)
        refine Run.cond_false rfl ?_
        refine Run.skip ?_
        refine Run.inBlock ?_
        (refine Run.region ?_; intro K hK)
        refine Ops.pure H (X.move rfl) rfl rfl rfl ?_
        refine Ops.pure H (X.succ rfl rfl (by omega)) rfl rfl rfl ?_
        refine Ops.pure H (X.assign rfl) rfl rfl rfl ?_
        (refine Ops.nil (hK _ _ ?_); clear hK K)
      case' x2 =>
        refine Draw.take0 rfl (X.move rfl) rfl rfl rfl (by decide +kernel) ?_
        refine Draw.take0 rfl (X.fieldAddr rfl rfl rfl rfl rfl rfl) rfl rfl rfl (by decide +kernel) ?_
        refine Draw.take rfl (X.load1 rfl rfl rfl rfl Pick.head rfl) rfl rfl rfl (by decide +kernel) ?_
        refine Draw.take0 rfl (X.fieldAddr rfl rfl rfl rfl rfl rfl) rfl rfl rfl (by decide +kernel) ?_
        refine Draw.take rfl (X.load1 rfl rfl rfl rfl Pick.head rfl) rfl rfl rfl (by decide +kernel) ?_
        refine Draw.take0 rfl (X.fieldAddr rfl rfl rfl rfl rfl rfl) rfl rfl rfl (by decide +kernel) ?_
        refine Draw.take rfl (X.load1 rfl rfl rfl rfl Pick.head rfl) rfl rfl rfl (by decide +kernel) ?_
        refine Draw.take0 rfl (X.move rfl) rfl rfl rfl (by decide +kernel) ?_
    case' x1 =>
      refine Run.seq ?_
      (refine Run.region ?_; intro K hK)
      refine Ops.pure H (X.move rfl) rfl rfl rfl ?_
      refine Ops.pure H (X.succ rfl rfl (by omega)) rfl rfl rfl ?_
      refine Ops.pure H (X.assign rfl) rfl rfl rfl ?_
      (refine Ops.nil (hK _ _ ?_); clear hK K)
      refine Run.exit rfl ?_
      (refine Run.region ?_; intro K hK)
      refine Ops.pure H (X.move rfl) rfl rfl rfl ?_
      refine Ops.pure H (X.succ rfl rfl (by omega)) rfl rfl rfl ?_
      refine Ops.pure H (X.assign rfl) rfl rfl rfl ?_
      (refine Ops.nil (hK _ _ ?_); clear hK K)
    · refine (IH (i + 1, k + 1, W', B) _ (by dsimp only; omega) ⟨by dsimp only; omega, by dsimp only; omega, hT6.ext H.fr, fun hk => ?_⟩).weak (by repeat (first | exact trivial | refine ⟨rfl, ?_⟩))
      dsimp only at hk ⊢
      obtain ⟨g1, g2, g3⟩ := hK' (by omega)
      have := putN_le (N := W.N) (s := st W cid) (seq := seq) (bs := xs)
      rw [hs2 cl (fun e => h77 e.symm)]
      exact ⟨g1, by omega, g3⟩
    · have hk : k < 1024 := by omega
      obtain ⟨g1, g2, g3⟩ := hK' hk
      subst h77
      refine Draw.eff rfl rfl (by decide +kernel) (Y.call rfl rfl (by first | assumption | decide +kernel) rfl (own_any _ _ xs (hxs.ext (hT6.fr.then H.fr)) hxl) rfl ?_)
      rintro v w7 ⟨hA7, hf7⟩
      obtain ⟨va', vcap', rfl⟩ := hA7.slice
      replace H := H.ext hf7
      refine ⟨H.at_, ?_⟩
      replace hT6 := hT6.ext H.fr
      skip
      refine Draw.eff rfl rfl (by decide +kernel) (Y.call rfl rfl (by first | assumption | decide +kernel) rfl (two_put z _ n B W' cid seq _ xs hT6.swap hA7 h1 h2) rfl ?_)
      rintro v w8 ⟨rfl, B', hwb8, hT8, hs1', hs2', hN8, hf8⟩
      have hn0 : ∀ N, N ≤ k + indC (st W cid) → st W cid = none → N < 1024 := fun N hN h0 => by rw [h0] at hN; simp [indC] at hN; omega
      have he : putE B.N (st B cid) seq xs = putE W.N (st W cid) seq xs := by
        rw [← g1]
        exact putE_same (hn0 _ (by rw [← g1] at g3; omega)) (hn0 _ g2)
      have hsS : st W' cid = st B' cid := by
        rw [hs1, hs1', ← g1]
        exact putS_same (hn0 _ g2) (hn0 _ (by rw [← g1] at g3; omega))
      have hiW : W'.N ≤ k + indC (st W' cid) := by
        rw [hN6, hs1]
        exact putN_ind g2
      have hiB : B'.N ≤ indC (st B' cid) := by
        have := putN_ind (n := n) (k := 0) (seq := seq) (bs := xs) (show B.N ≤ 0 + indC (st B cid) by omega)
        rw [hN8, hs1']
        omega
      rw [he, ← hwb8]
      have hb8 := hf8.get (H.pick .head) (fun hm => by
        have hb := H.pick .head
        rcases hT6.pa.foot (footP_foot hm) with ⟨_, _, e⟩ | ⟨_, e⟩ | ⟨_, e⟩ | ⟨_, e⟩
        · rw [e] at hb; cases hb
        · exact ne_of_ty hb e (by decide) rfl
        · exact ne_of_ty hb e (by decide) rfl
        · exact ne_of_ty hb e (by decide) rfl)
      have hab8 := hT8.fr.get hab (by simp)
      have hnd := H.nd
      clear H
      have H := ((Holds.start w8 []).add false hab8 (by simp) (by simp)).add false hb8 (by simpa [List.pairwise_cons] using hnd) (by simp)
      refine ⟨H.at_, ?_⟩
      refine Draw.take0 rfl (X.cmp rfl rfl rfl) rfl rfl rfl (by decide +kernel) ?_
      refine Draw.take0 rfl (X.pick_t rfl rfl) rfl rfl rfl (by decide +kernel) ?_
      (refine Draw.done (by decide +kernel) (hK _ _ ?_); clear hK K)
      refine Run.cond_ndec rfl (fun h94 => ?x3) (fun h94 => ?y3)
      case' y3 =>
        refine Run.skip ?_
        refine Run.inBlock ?_
        (refine Run.region ?_; intro K hK)
        refine Ops.pure H (X.move rfl) rfl rfl rfl ?_
        refine Ops.pure H (X.succ rfl rfl (by omega)) rfl rfl rfl ?_
        refine Ops.pure H (X.assign rfl) rfl rfl rfl ?_
        (refine Ops.nil (hK _ _ ?_); clear hK K)
      case' x3 => exfalso; omega
      exact (IH (i + 1, k, W', B') _ (by dsimp only; omega) ⟨by dsimp only; omega, by dsimp only; omega, (hT8.ext H.fr).swap, fun _ => ⟨hsS, hiW, hiB⟩⟩).weak (by repeat (first | exact trivial | refine ⟨rfl, ?_⟩))
    · exact (IH (i + 1, k, W', B) _ (by dsimp only; omega) ⟨by dsimp only; omega, by dsimp only; omega, hT6.ext H.fr, fun hk => by dsimp only at hk; omega⟩).weak (by repeat (first | exact trivial | refine ⟨rfl, ?_⟩))
  · have H := Holds.start w4 []
    clear IH
    refine Run.seq ?_
    refine Run.seq ?_
    (refine Run.region ?_; intro K hK)
    refine Ops.pure H (X.move rfl) rfl rfl rfl ?_
    refine Ops.pure H (X.move rfl) rfl rfl rfl ?_
    refine Ops.pure H (X.len_slice rfl rfl rfl) rfl rfl rfl ?_
    refine Ops.pure H (X.cmp rfl rfl rfl) rfl rfl rfl ?_
    (refine Ops.nil (hK _ _ ?_); clear hK K)
    refine Run.cond_dec rfl (fun h58 => ?x4) (fun h58 => ?y4)
    case' y4 =>
      refine Run.exit rfl ?_
      refine Run.seq ?_
      refine Run.seq ?_
      (refine Run.region ?_; intro K hK)
      refine Ops.pure H (X.move rfl) rfl rfl rfl ?_
      refine Ops.pure H (X.cmp rfl rfl rfl) rfl rfl rfl ?_
      (refine Ops.nil (hK _ _ ?_); clear hK K)
      refine Run.cond_dec rfl (fun h96 => ?x5) (fun h96 => ?y5)
      case' y5 =>
        refine Run.skip ?_
        refine Run.seq ?_
        refine Run.seq ?_
        (refine Run.region ?_; intro K hK)
        refine Ops.pure H (X.assign rfl) rfl rfl rfl ?_
        (refine Ops.nil (hK _ _ ?_); clear hK K)
        refine Run.block ?_
      case' x5 =>
        refine Run.seq ?_
        (refine Run.region ?_; intro K hK)
        refine Ops.pure H (X.assign rfl) rfl rfl rfl ?_
        (refine Ops.nil (hK _ _ ?_); clear hK K)
    case' x4 => exfalso; omega
    · (first | refine Fn.ret1 HF rfl rfl ?_ | refine Fn.ret2 HF rfl rfl rfl ?_ | refine Fn.ret3 HF rfl rfl rfl rfl ?_ | refine Fn.ret0 HF rfl ?_ | refine Fn.fin0 HF rfl ?_ | refine Fn.retG (E := env) HF rfl H (by first | exact RVs.cellN rfl rfl rfl (by first | exact .head | exact .tail .head | exact .tail (.tail .head) | exact .tail (.tail (.tail .head)) | exact .tail (.tail (.tail (.tail .head))) | exact .tail (.tail (.tail (.tail (.tail .head)))) | exact .tail (.tail (.tail (.tail (.tail (.tail .head)))))) (by first | assumption | exact Cs.take rfl) RVs.nil | exact RVs.cellN rfl rfl rfl (by first | exact .head | exact .tail .head | exact .tail (.tail .head) | exact .tail (.tail (.tail .head)) | exact .tail (.tail (.tail (.tail .head))) | exact .tail (.tail (.tail (.tail (.tail .head)))) | exact .tail (.tail (.tail (.tail (.tail (.tail .head)))))) (by first | assumption | exact Cs.take rfl) (RVs.tmp rfl RVs.nil)) rfl ?_)
      exact ⟨rfl, hT.fr.then H.fr⟩
    obtain ⟨g1, g2, g3⟩ := hK' (by omega)
    refine Run.rounds (fun (i : Nat) => [(1, .slice aa an acap), (2, .int .u64 cl), (7, .pointer (some ⟨W.wb, 0, none⟩)), (9, .pointer (some ⟨B.wb, 0, none⟩)), (15, .int .i64 (i : Nat))])
      (fun i w' => i ≤ an ∧ Two z w' n W B) (fun i => an - i) 0 (by repeat (first | exact trivial | refine ⟨rfl, ?_⟩)) ⟨by omega, hT.ext H.fr⟩ ?_
    clear H hT
    rintro i w5 ⟨hi, hT⟩ IH
    by_cases hlt : i < an
    · obtain ⟨hcs, _⟩ := hA.2.2 i hlt
      obtain ⟨rfl, hab⟩ := hA.2.1 (by omega)
      generalize A i = ai at hcs
      obtain ⟨kind, cid, seq, av, xs⟩ := ai
      simp only [daC] at hcs
      have c2 : acs[aoff + i * 4 + 2]? = some (.int .u64 seq) := hcs.get 2 _ rfl
      have H := (Holds.start w5 []).add false (hT.fr.get hab (by simp)) (by simp) (by simp)
      refine Run.seq ?_
      refine Run.seq ?_
      (refine Run.region ?_; intro K hK)
      refine Ops.pure H (X.move rfl) rfl rfl rfl ?_
      refine Ops.pure H (X.move rfl) rfl rfl rfl ?_
      refine Ops.pure H (X.len_slice rfl rfl rfl) rfl rfl rfl ?_
      refine Ops.pure H (X.cmp rfl rfl rfl) rfl rfl rfl ?_
      (refine Ops.nil (hK _ _ ?_); clear hK K)
      refine Run.cond_dec rfl (fun h100 => ?x6) (fun h100 => ?y6)
      case' y6 => exfalso; omega
      case' x6 =>
        refine Run.skip ?_
        refine Run.seq ?_
        refine Run.block ?_
        refine Run.seq ?_
        (refine Run.region ?_; intro K hK)
        refine Ops.pure H (X.move rfl) rfl rfl rfl ?_
        refine Ops.pure H (X.move rfl) rfl rfl rfl ?_
        refine Ops.pure H (X.move rfl) rfl rfl rfl ?_
        refine Ops.pure H (X.move rfl) rfl rfl rfl ?_
        refine Ops.pure H (X.indexAddr rfl rfl (by omega) rfl rfl rfl rfl) rfl rfl rfl ?_
        refine Ops.pure H (X.fieldAddr rfl rfl rfl rfl rfl rfl) rfl rfl rfl ?_
        refine Ops.pure H (X.load1 rfl rfl rfl rfl Pick.head (by assumption)) rfl rfl rfl ?_
      refine Ops.eff rfl (Y.call rfl rfl (by first | assumption | decide +kernel) rfl (Ask_any _ W cl seq (hT.pw.ext H.fr) (askB_short (hT.sw cl))) rfl ?_)
      rintro v w6 ⟨hf6, b6, rfl, hA6⟩
      replace H := H.ext hf6
      replace hT := hT.ext H.fr
      replace H := H.anew (S' := []) (G' := [⟨_, _, false⟩]) (by repeat constructor) (by simp)
      refine Ops.pure H (X.move rfl) rfl rfl rfl ?_
      refine Ops.pure H (X.extract rfl rfl) rfl rfl rfl ?_
      refine Ops.pure H (X.extract rfl rfl) rfl rfl rfl ?_
      refine Ops.pure H (X.extract rfl rfl) rfl rfl rfl ?_
      refine Ops.pure H (X.assign rfl) rfl rfl rfl ?_
      refine Ops.pure H (X.assign rfl) rfl rfl rfl ?_
      refine Ops.pure H (X.assign rfl) rfl rfl rfl ?_
      (refine Ops.nil (hK _ _ ?_); clear hK K)
      refine Run.seq ?_
      (refine Run.region ?_; intro K hK)
      refine Ops.pure H (X.move rfl) rfl rfl rfl ?_
      refine Ops.pure H (X.move rfl) rfl rfl rfl ?_
      refine Ops.pure H (X.move rfl) rfl rfl rfl ?_
      refine Ops.pure H (X.move rfl) rfl rfl rfl ?_
      refine Ops.pure H (X.indexAddr rfl rfl (by omega) rfl rfl rfl rfl) rfl rfl rfl ?_
      refine Ops.pure H (X.fieldAddr rfl rfl rfl rfl rfl rfl) rfl rfl rfl ?_
      refine Ops.pure H (X.load1 rfl rfl rfl rfl Pick.head (by assumption)) rfl rfl rfl ?_
      refine Ops.eff rfl (Y.call rfl rfl (by first | assumption | decide +kernel) rfl (Ask_any _ B cl seq (hT.pa.ext H.fr) (askB_short (hT.sa cl))) rfl ?_)
      rintro v w7 ⟨hf7, b7, rfl, hA7⟩
      rw [← g1] at hA7 ⊢
      replace hA6 := (hA6.keep H.fr (by simp)).keep hf7 (by simp)
      replace H := H.ext hf7
      replace hT := hT.ext H.fr
      replace H := H.anew (S' := []) (G' := [⟨_, _, false⟩]) (by repeat constructor) (by simp)
      obtain ⟨e1, he1⟩ : ∃ e, e = (if seq = 0 then (0 : Int) else askK (st W cl) seq) := ⟨_, rfl⟩
      obtain ⟨e2, he2⟩ : ∃ e, e = (if seq = 0 then (1 : Int) else 0) := ⟨_, rfl⟩
      rw [← he1, ← he2]
      refine Ops.pure H (X.move rfl) rfl rfl rfl ?_
      refine Ops.pure H (X.extract rfl rfl) rfl rfl rfl ?_
      refine Ops.pure H (X.extract rfl rfl) rfl rfl rfl ?_
      refine Ops.pure H (X.extract rfl rfl) rfl rfl rfl ?_
      refine Ops.pure H (X.assign rfl) rfl rfl rfl ?_
      refine Ops.pure H (X.assign rfl) rfl rfl rfl ?_
      refine Ops.pure H (X.assign rfl) rfl rfl rfl ?_
      (refine Ops.nil (hK _ _ ?_); clear hK K)
      refine Run.seq ?_
      (refine Run.region ?_; intro K hK)
      refine Ops.pure H (X.move rfl) rfl rfl rfl ?_
      refine Ops.pure H (X.move rfl) rfl rfl rfl ?_
      refine Ops.pure H (X.cmp rfl rfl rfl) rfl rfl rfl ?_
      refine Ops.pure H (X.move rfl) rfl rfl rfl ?_
      refine Ops.split_ndec rfl rfl (fun h131 => ?x7) (fun h131 => ?y7)
      case' y7 =>
        refine Ops.pure H (X.move rfl) rfl rfl rfl ?_
      case' x7 => exfalso; omega
      refine Ops.eff rfl (Y.bytes hA6.bys rfl rfl rfl rfl rfl rfl rfl rfl ?_)
      refine Ops.pure H (X.move rfl) rfl rfl rfl ?_
      refine Ops.eff rfl (Y.bytes hA7.bys rfl rfl rfl rfl rfl rfl rfl rfl ?_)
      refine Ops.pure H (X.strNe rfl rfl) rfl rfl rfl ?_
      refine Ops.pure H (X.pick_f rfl rfl) rfl rfl rfl ?_
      refine Ops.pure H (X.move rfl) rfl rfl rfl ?_
      refine Ops.split_ndec rfl rfl (fun h138 => ?x8) (fun h138 => ?y8)
      case' y8 =>
        refine Ops.pure H (X.move rfl) rfl rfl rfl ?_
        refine Ops.pure H (X.move rfl) rfl rfl rfl ?_
        refine Ops.pure H (X.cmp rfl rfl rfl) rfl rfl rfl ?_
        refine Ops.pure H (X.pick_f rfl rfl) rfl rfl rfl ?_
        (refine Ops.nil (hK _ _ ?_); clear hK K)
        refine Run.cond_ndec rfl (fun h141 => ?x9) (fun h141 => ?y9)
        case' y9 =>
          refine Run.skip ?_
          refine Run.inBlock ?_
          (refine Run.region ?_; intro K hK)
          refine Ops.pure H (X.move rfl) rfl rfl rfl ?_
          refine Ops.pure H (X.succ rfl rfl (by omega)) rfl rfl rfl ?_
          refine Ops.pure H (X.assign rfl) rfl rfl rfl ?_
          (refine Ops.nil (hK _ _ ?_); clear hK K)
        case' x9 => exfalso; omega
      case' x8 =>
        refine Ops.pass rfl rfl rfl ?_
        refine Ops.pass rfl rfl rfl ?_
        refine Ops.pass rfl rfl rfl ?_
        refine Ops.pure H (X.pick_t rfl rfl) rfl rfl rfl ?_
        (refine Ops.nil (hK _ _ ?_); clear hK K)
        refine Run.cond_true rfl ?_
        refine Run.seq ?_
        (refine Run.region ?_; intro K hK)
        refine Ops.pure H (X.assign rfl) rfl rfl rfl ?_
        (refine Ops.nil (hK _ _ ?_); clear hK K)
      · exact absurd rfl h138
      · exact (IH (i + 1) _ (by omega) ⟨by omega, hT.ext H.fr⟩).weak (by repeat (first | exact trivial | refine ⟨rfl, ?_⟩))
    · have H := Holds.start w5 []
      refine Run.seq ?_
      refine Run.seq ?_
      (refine Run.region ?_; intro K hK)
      refine Ops.pure H (X.move rfl) rfl rfl rfl ?_
      refine Ops.pure H (X.move rfl) rfl rfl rfl ?_
      refine Ops.pure H (X.len_slice rfl rfl rfl) rfl rfl rfl ?_
      refine Ops.pure H (X.cmp rfl rfl rfl) rfl rfl rfl ?_
      (refine Ops.nil (hK _ _ ?_); clear hK K)
      refine Run.cond_dec rfl (fun h100 => ?x10) (fun h100 => ?y10)
      case' y10 =>
        refine Run.exit rfl ?_
        refine Run.seq ?_
        (refine Run.region ?_; intro K hK)
        refine Ops.pure H (X.move rfl) rfl rfl rfl ?_
        refine Ops.pure H (X.move rfl) rfl rfl rfl ?_
      case' x10 => exfalso; omega
      refine Ops.eff rfl (Y.call rfl rfl (by first | assumption | decide +kernel) rfl (floor_any _ W cl (hT.pw.ext H.fr)) rfl ?_)
      rintro v w6 ⟨rfl, hf6⟩
      replace H := H.ext hf6
      refine Ops.pure H (X.move rfl) rfl rfl rfl ?_
      refine Ops.pure H (X.move rfl) rfl rfl rfl ?_
      refine Ops.eff rfl (Y.call rfl rfl (by first | assumption | decide +kernel) rfl (floor_any _ B cl (hT.pa.ext H.fr)) rfl ?_)
      rintro v w7 ⟨rfl, hf7⟩
      rw [← g1]
      replace H := H.ext hf7
      refine Ops.pure H (X.cmp rfl rfl rfl) rfl rfl rfl ?_
      refine Ops.pure H (X.assign rfl) rfl rfl rfl ?_
      (refine Ops.nil (hK _ _ ?_); clear hK K)
      (first | refine Fn.ret1 HF rfl rfl ?_ | refine Fn.ret2 HF rfl rfl rfl ?_ | refine Fn.ret3 HF rfl rfl rfl rfl ?_ | refine Fn.ret0 HF rfl ?_ | refine Fn.fin0 HF rfl ?_ | refine Fn.retG (E := env) HF rfl H (by first | exact RVs.cellN rfl rfl rfl (by first | exact .head | exact .tail .head | exact .tail (.tail .head) | exact .tail (.tail (.tail .head)) | exact .tail (.tail (.tail (.tail .head))) | exact .tail (.tail (.tail (.tail (.tail .head)))) | exact .tail (.tail (.tail (.tail (.tail (.tail .head)))))) (by first | assumption | exact Cs.take rfl) RVs.nil | exact RVs.cellN rfl rfl rfl (by first | exact .head | exact .tail .head | exact .tail (.tail .head) | exact .tail (.tail (.tail .head)) | exact .tail (.tail (.tail (.tail .head))) | exact .tail (.tail (.tail (.tail (.tail .head)))) | exact .tail (.tail (.tail (.tail (.tail (.tail .head)))))) (by first | assumption | exact Cs.take rfl) (RVs.tmp rfl RVs.nil)) rfl ?_)
      exact ⟨by simp, hT.fr.then H.fr⟩
end Go.Proofs.Ytikkpkckbcpjfaa
