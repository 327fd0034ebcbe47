/- Walks of layer 6: the law NetOnce. -/
import Derived.Test.YtpmihcefjdeonaaQS
namespace Go.Proofs.Ytpmihcefjdeonaa
open Go
set_option maxRecDepth 20000
set_option maxHeartbeats 2000000
attribute [local irreducible] Run Ops Fn Draw Draw2 PureOp StepZ

theorem Bys.keep0 {w w' : World} {S : List Nat} {v : Value} {xs : List Int} (h : Bys w v xs) (hf : Fr w w' S) (hS : 0 < xs.length → ∀ b ∈ S, ∀ a n c, v = .slice (some a) n c → a.block ≠ b) : Bys w' v xs := by
  obtain ⟨a, cap, b, off, cs, T, fz, rfl, h2, h3, h4, h5⟩ := h
  exact ⟨a, cap, b, off, cs, T, fz, rfl, h2, h3, fun hp => ⟨(h4 hp).1, hf.get (h4 hp).2 (fun hm => by obtain ⟨rfl, _⟩ := h4 hp; exact hS hp b hm _ _ _ rfl rfl)⟩, h5⟩
theorem Solo.tb {z w w' : World} {pb n : Nat} {d : Value} {g : PG} {s : Ns} {B : TB} {o : OS} {S : List Nat} (D : Solo z w pb d g s) (hT : TS w n B o) (hZ : ∀ b, TBl n B b → z.heap.size ≤ b) (hf : Fr w w' S) (hS : ∀ b ∈ S, TBl n B b) : Solo z w' pb d g s := by
  refine ⟨D.p.keep hf (fun b hb => hT.notP D.p (hS b hb)), D.fr.trans hf (by simp) (fun x hx hl => by have := hZ x (hS x hx); omega), hf.get D.pr (fun hm => ?_), D.pf, D.nP, D.ag⟩
  obtain ⟨cs, T, h1, h2⟩ := hT.ty (hS _ hm)
  have e := rows_ne ⟨_, D.pr⟩ ⟨_, h1⟩
  subst e
  exact absurd h2 (by decide)
theorem TS.apart {w w' : World} {n b T : Nat} {cs : List Value} {B : TB} {o : OS} (h : TS w n B o) (hf : Fr w w' [b]) (hb : w.heap[b]? = some (row cs T)) (hT : T ∉ [45, 46, 50, 3, 9]) : TS w' n B o := h.keep hf (fun a ha hm => by
  simp at ha
  subst ha
  obtain ⟨cs', T', h1, h2⟩ := h.ty hm
  have e := rows_ne ⟨_, hb⟩ ⟨_, h1⟩
  subst e
  exact hT h2)
theorem Solo.apart {z w w' : World} {pb b : Nat} {d : Value} {g : PG} {s : Ns} (D : Solo z w pb d g s) (hf : Fr w w' [b]) (h1 : ¬ PF g b) (h2 : ¬ PI g b) (h34 : pb ≠ b) (hz : z.heap.size ≤ b) : Solo z w' pb d g s :=
  ⟨D.p.keep hf (fun a ha => by simp at ha; subst ha; exact ⟨h1, h2⟩), D.fr.trans hf (by simp) (fun x hx hl => by simp at hx; omega), hf.get D.pr (by simpa using h34), D.pf, D.nP, D.ag⟩
theorem recv_none {s : Ns} {i : Int} (h : s.head i = none) : s.recv i = s := by
  unfold Ns.head at h
  unfold Ns.recv
  split at h
  · rename_i q
    rw [if_pos q]
    have hb : s.box i.toNat = [] := by simpa using h
    rw [hb]
    have e : ∀ x, (s.setB i.toNat ([] : List (Nat × List Int)).tail).box x = s.box x := fun x => by
      rw [setB_box]
      split
      · rename_i q; rw [q, hb]; rfl
      · rfl
    have e2 : (s.setB i.toNat ([] : List (Nat × List Int)).tail).box = s.box := funext e
    unfold Ns.setB at e2 ⊢
    cases s
    simp only at e2 ⊢
    rw [e2]
  · rename_i q
    rw [if_neg q]
theorem head_some {s : Ns} {i : Int} {m : Nat × List Int} (h : s.head i = some m) : ∃ (t : Nat) (rest : List (Nat × List Int)), i = (t : Nat) ∧ t < s.n ∧ s.up t = true ∧ s.box t = m :: rest ∧ s.recvE i = 0 ∧ s.recv i = s.setB t rest := by
  unfold Ns.head at h
  split at h
  · rename_i q
    obtain ⟨t, rfl, ht, hu⟩ := there_iff.1 q
    rw [Int.toNat_natCast] at h
    cases hb : s.box t with
    | nil => rw [hb] at h; cases h
    | cons a l =>
      rw [hb] at h
      cases h
      exact ⟨t, l, rfl, ht, hu, hb, by unfold Ns.recvE; rw [if_pos q], by unfold Ns.recv; rw [if_pos q, Int.toNat_natCast, hb]; rfl⟩
  · cases h
theorem count_at (z : World) (g : PG) (k : Nat) {nb n : Nat} (hnb : g.nb = nb) (hn : g.n = n) (h : PN z g) (hok : g.abs.Ok k) (hk : k ≤ 4398046511000) : Fn env.P 18 [.pointer (some ⟨nb, 0, none⟩), .int .i64 (n : Nat)] z fun v w' => Fr z w' [] ∧ ∃ ob rows, v = .slice (some ⟨ob, 0, none⟩) n n ∧ z.heap.size ≤ ob ∧ (∀ i, i < n → z.heap.size ≤ rows i) ∧ Tab w' ob 46 3 n rows fun f t => .int .i64 (cnt g.abs f t : Nat) := by
  subst hn
  exact count_any z g k hnb h hok hk
theorem TS.setNil {w w' : World} {n sb gb qb : Nat} {sr gr qr : Nat → Nat} {sv : Nat → Nat → Value} {sx : Nat → Nat → Option Nat} {o : OS} {f t : Nat} (h : TS w n ⟨sb, gb, qb, sr, gr, qr, sv, sx⟩ o) (hf : f < n) (ht : t < n) (F : Fr w w' [sr f]) (hw : w'.heap[sr f]? = some (row ((rowOf n (sv f)).set t (.slice none 0 0)) 50)) : ∃ sv' sx', TS w' n ⟨sb, gb, qb, sr, gr, qr, sv', sx'⟩ { o with sent := upd2 o.sent f t [] } ∧ ∀ b, TBl n ⟨sb, gb, qb, sr, gr, qr, sv', sx'⟩ b → TBl n ⟨sb, gb, qb, sr, gr, qr, sv, sx⟩ b := by
  refine ⟨_, _, h.setSent (l := []) (ob := none) (v := .slice none 0 0) hf ht F (fun b hb => .inl (by simpa using hb)) hw Lst.nil (by simp), ?_⟩
  rintro b (e | e | e | ⟨a, ha, e⟩ | ⟨a, d, ha, hd, e⟩)
  · exact .inl e
  · exact .inr (.inl e)
  · exact .inr (.inr (.inl e))
  · exact .inr (.inr (.inr (.inl ⟨a, ha, e⟩)))
  · replace e : upd2 sx f t none a d = some b := e
    unfold upd2 at e
    split at e
    · cases e
    · exact .inr (.inr (.inr (.inr ⟨a, d, ha, hd, e⟩)))
theorem reset_step {α : Type} {A x f t : Nat} {e v : α} : (if f = x ∧ t = A then e else if f = A ∧ t = x then e else if f = A ∧ t < x ∨ t = A ∧ f < x then e else v) = if f = A ∧ t < x + 1 ∨ t = A ∧ f < x + 1 then e else v := by
  grind
theorem reset_old {A x f t v : Nat} (c : Nat → Nat) : (if f = x ∧ t = A then 0 else if f = A ∧ t = x then c x else if t = A ∧ f < x then 0 else if f = A ∧ t < x then c t else v) = if t = A ∧ f < x + 1 then 0 else if f = A ∧ t < x + 1 then c t else v := by
  grind
theorem netOnce_no (z : World) (n : Int) (av : Value) (h : ¬ (1 ≤ n ∧ n ≤ 64)) : Fn env.P 4 [.int .i64 n, av] z fun v w' => v = .bool true ∧ Fr z w' [] := by
  have H := Holds.start z []
  have HF := Try.func4; refine Fn.enter Try.func4 Try.ntmps4 rfl rfl rfl ?_
  refine Run.seq ?_
  (refine Run.region ?_; intro K hK)
  refine Ops.pure H (X.assign rfl) rfl rfl rfl ?_
  (refine Ops.nil (hK _ _ ?_); clear hK K)
  refine Run.seq ?_
  refine Run.seq ?_
  (refine Run.region ?_; intro K hK)
  refine Ops.eff rfl (Y.call rfl rfl (by first | assumption | decide +kernel) rfl (lives_yes _) rfl ?_)
  rintro v w1 ⟨rfl, hf1⟩
  replace H := H.ext hf1
  refine Ops.pure H (X.not rfl) rfl rfl rfl ?_
  (refine Ops.nil (hK _ _ ?_); clear hK K)
  refine Run.cond_false rfl ?_
  refine Run.skip ?_
  refine Run.seq ?_
  (refine Run.region ?_; intro K hK)
  refine Ops.pure H (X.move rfl) rfl rfl rfl ?_
  refine Ops.eff rfl (Y.call rfl rfl (by first | assumption | decide +kernel) rfl (begins_no _ n h) rfl ?_)
  rintro v w2 ⟨rfl, rfl⟩
  refine Ops.pure H (X.move rfl) rfl rfl rfl ?_
  refine Ops.pure H (X.extract rfl rfl) rfl rfl rfl ?_
  refine Ops.pure H (X.extract rfl rfl) rfl rfl rfl ?_
  refine Ops.pure H (X.assign rfl) rfl rfl rfl ?_
  refine Ops.pure H (X.assign rfl) rfl rfl rfl ?_
  (refine Ops.nil (hK _ _ ?_); clear hK K)
  refine Run.seq ?_
  refine Run.seq ?_
  (refine Run.region ?_; intro K hK)
  refine Ops.pure H (X.move rfl) rfl rfl rfl ?_
  refine Ops.pure H (X.ptrNil rfl rfl rfl rfl rfl) rfl rfl rfl ?_
  (refine Ops.nil (hK _ _ ?_); clear hK K)
  refine Run.cond_true rfl ?_
  refine Run.seq ?_
  (refine Run.region ?_; intro K hK)
  refine Ops.pure H (X.move rfl) rfl rfl rfl ?_
  refine Ops.pure H (X.assign rfl) rfl rfl rfl ?_
  (refine Ops.nil (hK _ _ ?_); clear hK K)
  (first | refine Fn.ret1 HF rfl rfl ?_ | refine Fn.ret2 HF rfl rfl rfl ?_ | refine Fn.ret3 HF rfl rfl rfl rfl ?_ | refine Fn.ret0 HF rfl ?_ | refine Fn.fin0 HF rfl ?_ | refine Fn.retG (E := env) HF rfl H (by first | exact RVs.cellN rfl rfl rfl (by first | exact .head | exact .tail .head | exact .tail (.tail .head) | exact .tail (.tail (.tail .head)) | exact .tail (.tail (.tail (.tail .head))) | exact .tail (.tail (.tail (.tail (.tail .head)))) | exact .tail (.tail (.tail (.tail (.tail (.tail .head)))))) (by first | assumption | exact Cs.take rfl) RVs.nil | exact RVs.cellN rfl rfl rfl (by first | exact .head | exact .tail .head | exact .tail (.tail .head) | exact .tail (.tail (.tail .head)) | exact .tail (.tail (.tail (.tail .head))) | exact .tail (.tail (.tail (.tail (.tail .head)))) | exact .tail (.tail (.tail (.tail (.tail (.tail .head)))))) (by first | assumption | exact Cs.take rfl) (RVs.tmp rfl RVs.nil) | exact RVs.cellN rfl rfl rfl (by first | exact .head | exact .tail .head | exact .tail (.tail .head) | exact .tail (.tail (.tail .head)) | exact .tail (.tail (.tail (.tail .head))) | exact .tail (.tail (.tail (.tail (.tail .head)))) | exact .tail (.tail (.tail (.tail (.tail (.tail .head)))))) (by first | assumption | exact Cs.take rfl) (RVs.tmp rfl (RVs.tmp rfl RVs.nil))) rfl ?_)
  exact ⟨rfl, H.fr⟩
theorem netOnce_yes (z : World) (n : Nat) (aa : Option Addr) (an acap ab aoff : Nat) (acs : List Value) (aT : TypeId) (afz : Nat × Nat) (A : Nat → AL) (hA : AActs z aa an ab aoff acs aT afz A) (h1 : 1 ≤ n) (h2 : n ≤ 64) :
    Fn env.P 4 [.int .i64 (n : Nat), .slice aa an acap] z fun v w' => v = .bool true ∧ Fr z w' [] := by
  have H := Holds.start z []
  have HF := Try.func4; refine Fn.enter Try.func4 Try.ntmps4 rfl rfl rfl ?_
  refine Run.seq ?_
  (refine Run.region ?_; intro K hK)
  refine Ops.pure H (X.assign rfl) rfl rfl rfl ?_
  (refine Ops.nil (hK _ _ ?_); clear hK K)
  refine Run.seq ?_
  refine Run.seq ?_
  (refine Run.region ?_; intro K hK)
  refine Ops.eff rfl (Y.call rfl rfl (by first | assumption | decide +kernel) rfl (lives_yes _) rfl ?_)
  rintro v w1 ⟨rfl, hf1⟩
  replace H := H.ext hf1
  refine Ops.pure H (X.not rfl) rfl rfl rfl ?_
  (refine Ops.nil (hK _ _ ?_); clear hK K)
  refine Run.cond_false rfl ?_
  refine Run.skip ?_
  refine Run.seq ?_
  (refine Run.region ?_; intro K hK)
  refine Ops.pure H (X.move rfl) rfl rfl rfl ?_
  refine Ops.eff rfl (Y.call rfl rfl (by first | assumption | decide +kernel) rfl (begins_yes _ n h1 h2) rfl ?_)
  rintro v w2 ⟨pb, g0, h0, rfl, hpr, hap, hg0, hh0, hf2, hpz, hfree, hnP, hnI, hnR⟩
  have hsz1 := H.fr.size
  have D0 : Solo z w2 pb (.pointer (some ⟨h0.rb, 0, none⟩)) g0 (ns0 n) := ⟨hap.p, H.fr.then hf2, hpr, hfree.1, fun c hc => Nat.le_trans hsz1 (hnP c hc), hg0⟩
  obtain ⟨dp, hdp⟩ : ∃ dp : Option Addr, dp = some ⟨h0.rb, 0, none⟩ := ⟨_, rfl⟩
  rw [← hdp] at D0
  have H := Holds.start w2 []
  refine Ops.pure H (X.move rfl) rfl rfl rfl ?_
  refine Ops.pure H (X.extract rfl rfl) rfl rfl rfl ?_
  refine Ops.pure H (X.extract rfl rfl) rfl rfl rfl ?_
  refine Ops.pure H (X.assign rfl) rfl rfl rfl ?_
  refine Ops.pure H (X.assign rfl) rfl rfl rfl ?_
  (refine Ops.nil (hK _ _ ?_); clear hK K)
  refine Run.seq ?_
  refine Run.seq ?_
  (refine Run.region ?_; intro K hK)
  refine Ops.pure H (X.move rfl) rfl rfl rfl ?_
  refine Ops.pure H (X.ptrNil rfl rfl rfl rfl rfl) rfl rfl rfl ?_
  (refine Ops.nil (hK _ _ ?_); clear hK K)
  refine Run.cond_false rfl ?_
  refine Run.skip ?_
  refine Run.seq ?_
  refine Run.meet (fun (x : Nat × Nat) => [(0, .int .i64 (n : Nat)), (1, .slice aa an acap), (5, .pointer (some ⟨pb, 0, none⟩)), (7, .slice (some ⟨x.1, 0, none⟩) n n), (8, .slice (some ⟨x.2, 0, none⟩) n n)])
    (fun x w' => Fr w2 w' [] ∧ w2.heap.size ≤ x.1 ∧ w2.heap.size ≤ x.2 ∧ (∃ cs, w'.heap[x.1]? = some (row cs 45) ∧ cs.length = n) ∧ ∃ cs, w'.heap[x.2]? = some (row cs 46) ∧ cs.length = n) ?_ ?_
  rotate_left
  · intro kk go
    refine Run.draw H [] [0, 2, 1, 4, 3, 5] ?_
    clear H
    intro K hK w H
    refine Draw.take0 rfl (X.move rfl) rfl rfl rfl (by decide +kernel) ?_
    refine Draw.take0 rfl (X.move rfl) rfl rfl rfl (by decide +kernel) ?_
    have hF := H.fr
    have H := Holds.start w []
    refine Draw.eff2 (i := 1) (j := 3) [4, 3, 5] [1, 4, 5] rfl rfl rfl rfl (by decide +kernel) (Y.make (len := n) (cap := n) rfl rfl (Nat.le_refl _) rfl rfl rfl rfl (by dsimp only; omega) (by omega) rfl H ?_) (Y.make (len := n) (cap := n) rfl rfl (Nat.le_refl _) rfl rfl rfl rfl (by dsimp only; omega) (by omega) rfl H ?_)
    · intro sb scs w4 H hsb hsl _
      refine ⟨fun e he => (List.not_mem_nil he).elim, ?_⟩
      refine Draw.take0 rfl (X.assign rfl) rfl rfl rfl (by decide +kernel) ?_
      refine Draw.eff (i := 3) rfl rfl (by decide +kernel) (Y.make (len := n) (cap := n) rfl rfl (Nat.le_refl _) rfl rfl rfl rfl (by dsimp only; omega) (by omega) rfl H ?_)
      intro gb gcs w5 H hgb hgl _
      refine ⟨fun e he => (List.not_mem_nil he).elim, ?_⟩
      refine Draw.take0 rfl (X.assign rfl) rfl rfl rfl (by decide +kernel) ?_
      (refine Draw.done (by decide +kernel) (hK _ _ ?_); clear hK K)
      have hs := hF.size
      exact go (sb, gb) _ _ ⟨hF.then H.fr, by dsimp only; omega, by dsimp only; omega, ⟨_, H.pick (b := sb) (by first | exact .head | exact .tail .head | exact .tail (.tail .head) | exact .tail (.tail (.tail .head)) | exact .tail (.tail (.tail (.tail .head))) | exact .tail (.tail (.tail (.tail (.tail .head)))) | exact .tail (.tail (.tail (.tail (.tail (.tail .head)))))), by simpa using hsl⟩, _, H.pick (b := gb) (by first | exact .head | exact .tail .head | exact .tail (.tail .head) | exact .tail (.tail (.tail .head)) | exact .tail (.tail (.tail (.tail .head))) | exact .tail (.tail (.tail (.tail (.tail .head)))) | exact .tail (.tail (.tail (.tail (.tail (.tail .head)))))), by simpa using hgl⟩ (by repeat (first | exact trivial | refine ⟨rfl, ?_⟩))
    · intro gb gcs w4 H hgb hgl _
      refine ⟨fun e he => (List.not_mem_nil he).elim, ?_⟩
      skip
      refine Draw.eff (i := 1) rfl rfl (by decide +kernel) (Y.make (len := n) (cap := n) rfl rfl (Nat.le_refl _) rfl rfl rfl rfl (by dsimp only; omega) (by omega) rfl H ?_)
      intro sb scs w5 H hsb hsl _
      refine ⟨fun e he => (List.not_mem_nil he).elim, ?_⟩
      refine Draw.take0 rfl (X.assign rfl) rfl rfl rfl (by decide +kernel) ?_
      refine Draw.take0 rfl (X.assign rfl) rfl rfl rfl (by decide +kernel) ?_
      (refine Draw.done (by decide +kernel) (hK _ _ ?_); clear hK K)
      have hs := hF.size
      exact go (sb, gb) _ _ ⟨hF.then H.fr, by dsimp only; omega, by dsimp only; omega, ⟨_, H.pick (b := sb) (by first | exact .head | exact .tail .head | exact .tail (.tail .head) | exact .tail (.tail (.tail .head)) | exact .tail (.tail (.tail (.tail .head))) | exact .tail (.tail (.tail (.tail (.tail .head)))) | exact .tail (.tail (.tail (.tail (.tail (.tail .head)))))), by simpa using hsl⟩, _, H.pick (b := gb) (by first | exact .head | exact .tail .head | exact .tail (.tail .head) | exact .tail (.tail (.tail .head)) | exact .tail (.tail (.tail (.tail .head))) | exact .tail (.tail (.tail (.tail (.tail .head)))) | exact .tail (.tail (.tail (.tail (.tail (.tail .head)))))), by simpa using hgl⟩ (by repeat (first | exact trivial | refine ⟨rfl, ?_⟩))
  · rintro ⟨sb, gb⟩ w3 ⟨hF3, hsb, hgb, ⟨scs0, hs0, hsl0⟩, gcs0, hg0', hgl0⟩
    dsimp only at hF3 hsb hgb hs0 hg0' ⊢
    clear H
    have H := Holds.start w3 []
    refine Run.seq ?_
    refine Run.seq ?_
    (refine Run.region ?_; intro K hK)
    refine Ops.pure H (X.assign rfl) rfl rfl rfl ?_
    (refine Ops.nil (hK _ _ ?_); clear hK K)
    refine Run.block ?_
    refine Run.rounds (fun (x : Nat) => [(0, .int .i64 (n : Nat)), (1, .slice aa an acap), (5, .pointer (some ⟨pb, 0, none⟩)), (7, .slice (some ⟨sb, 0, none⟩) n n), (8, .slice (some ⟨gb, 0, none⟩) n n), (9, .int .i64 (x : Nat))])
      (fun x w' => x ≤ n ∧ Fr w2 w' [] ∧ ∃ (cs ds : List Value) (sr gr : Nat → Nat), w'.heap[sb]? = some (row cs 45) ∧ cs.length = n ∧ w'.heap[gb]? = some (row ds 46) ∧ ds.length = n ∧ (∀ i, i < x → cs[i]? = some (.slice (some ⟨sr i, 0, none⟩) n n) ∧ w'.heap[sr i]? = some (row (rowOf n fun _ => .slice none 0 0) 50) ∧ w2.heap.size ≤ sr i ∧ ds[i]? = some (.slice (some ⟨gr i, 0, none⟩) n n) ∧ w'.heap[gr i]? = some (row (rowOf n fun _ => .int .i64 0) 3) ∧ w2.heap.size ≤ gr i) ∧ ∀ i j, i < x → j < x → i ≠ j → sr i ≠ sr j ∧ gr i ≠ gr j)
      (fun x => n - x) 0 (by repeat (first | exact trivial | refine ⟨rfl, ?_⟩)) ⟨by omega, hF3.then H.fr, scs0, gcs0, fun _ => 0, fun _ => 0, H.fr.get hs0 (by simp), hsl0, H.fr.get hg0' (by simp), hgl0, fun i hi => by omega, fun i j hi => by omega⟩ ?_
    clear H hs0 hsl0 hg0' hgl0 hF3
    rintro x w4 ⟨hx, hF4, cs, ds, sr, gr, hs4, hsl4, hg4, hgl4, hr4, hd4⟩ IH
    have nsg : sb ≠ gb := ne_of_ty hs4 hg4 (by decide)
    by_cases hlt : x < n
    · have H := Holds.start w4 []
      refine Run.seq ?_
      refine Run.seq ?_
      (refine Run.region ?_; intro K hK)
      refine Ops.pure H (X.move rfl) rfl rfl rfl ?_
      refine Ops.pure H (X.move rfl) rfl rfl rfl ?_
      refine Ops.pure H (X.cmp rfl rfl rfl) rfl rfl rfl ?_
      (refine Ops.nil (hK _ _ ?_); clear hK K)
      refine Run.cond_dec rfl (fun h37 => ?x0) (fun h37 => ?y0)
      case' y0 => exfalso; omega
      case' x0 =>
        refine Run.skip ?_
      refine Run.seq ?_
      refine Run.block ?_
      have hsz4 := hF4.size
      refine Run.meet (fun (_ : Nat × Nat) => [(0, .int .i64 (n : Nat)), (1, .slice aa an acap), (5, .pointer (some ⟨pb, 0, none⟩)), (7, .slice (some ⟨sb, 0, none⟩) n n), (8, .slice (some ⟨gb, 0, none⟩) n n), (9, .int .i64 (x : Nat))])
        (fun b w' => Fr w4 w' [sb, gb] ∧ w'.heap[sb]? = some (row (cs.set (0 + x * 1) (.slice (some ⟨b.1, 0, none⟩) n n)) 45) ∧ w'.heap[gb]? = some (row (ds.set (0 + x * 1) (.slice (some ⟨b.2, 0, none⟩) n n)) 46) ∧ w'.heap[b.1]? = some (row (rowOf n fun _ => .slice none 0 0) 50) ∧ w'.heap[b.2]? = some (row (rowOf n fun _ => .int .i64 0) 3) ∧ w4.heap.size ≤ b.1 ∧ w4.heap.size ≤ b.2) ?_ ?_
      · rintro ⟨b1, b2⟩ w5 ⟨hF, q1, q2, q3, q4, q5, q6⟩
        dsimp only at hF q1 q2 q3 q4 q5 q6
        simp only [Nat.zero_add, Nat.mul_one] at q1 q2
        clear H
        have H := Holds.start w5 []
        refine Run.inBlock ?_
        (refine Run.region ?_; intro K hK)
        refine Ops.pure H (X.move rfl) rfl rfl rfl ?_
        refine Ops.pure H (X.succ rfl rfl (by omega)) rfl rfl rfl ?_
        refine Ops.pure H (X.assign rfl) rfl rfl rfl ?_
        (refine Ops.nil (hK _ _ ?_); clear hK K)
        have hsr : ∀ i, i < x → sr i < w4.heap.size ∧ gr i < w4.heap.size ∧ sr i ≠ sb ∧ sr i ≠ gb ∧ gr i ≠ sb ∧ gr i ≠ gb := fun i hi => by
          obtain ⟨_, r2, _, _, r5, _⟩ := hr4 i hi
          exact ⟨lt_of_at r2, lt_of_at r5, ne_of_ty r2 hs4 (by decide), ne_of_ty r2 hg4 (by decide), ne_of_ty r5 hs4 (by decide), ne_of_ty r5 hg4 (by decide)⟩
        refine (IH (x + 1) _ (by omega) ⟨by omega, (hF4.trans (U := []) hF (by simp) (fun y hy hl => by simp at hy; omega)).then H.fr, _, _, updb sr x b1, updb gr x b2, H.fr.get q1 (by simp), by simp [hsl4], H.fr.get q2 (by simp), by simp [hgl4], fun i hi => ?_, fun i j hi hj hij => ?_⟩).weak (by repeat (first | exact trivial | refine ⟨rfl, ?_⟩))
        · by_cases e : i = x
          · subst e
            rw [updb_self, updb_self]
            exact ⟨by rw [List.getElem?_set_self (by omega)], H.fr.get q3 (by simp), by omega, by rw [List.getElem?_set_self (by omega)], H.fr.get q4 (by simp), by omega⟩
          · rw [updb_ne e, updb_ne e]
            obtain ⟨r1, r2, r3, r4, r5, r6⟩ := hr4 i (by omega)
            obtain ⟨_, _, n1, n2, n3, n4⟩ := hsr i (by omega)
            exact ⟨by rw [List.getElem?_set_ne (fun e' => e e'.symm)]; exact r1, H.fr.get (hF.get r2 (by simpa using ⟨n1, n2⟩)) (by simp), r3, by rw [List.getElem?_set_ne (fun e' => e e'.symm)]; exact r4, H.fr.get (hF.get r5 (by simpa using ⟨n3, n4⟩)) (by simp), r6⟩
        · by_cases e : i = x
          · subst e
            rw [updb_self, updb_self, updb_ne (fun e => hij e.symm), updb_ne (fun e => hij e.symm)]
            have := hsr j (by omega)
            omega
          · rw [updb_ne e, updb_ne e]
            by_cases e' : j = x
            · subst e'
              rw [updb_self, updb_self]
              have := hsr i (by omega)
              omega
            · rw [updb_ne e', updb_ne e']
              exact hd4 i j (by omega) (by omega) hij
      intro kk go
      refine Run.draw H [] [0, 1, 2, 3, 4, 6, 5, 7, 8, 9, 10, 11] ?_
      clear H
      intro K hK w H
      refine Draw.take0 rfl (X.move rfl) rfl rfl rfl (by decide +kernel) ?_
      refine Draw.take0 rfl (X.move rfl) rfl rfl rfl (by decide +kernel) ?_
      refine Draw.take0 rfl (X.move rfl) rfl rfl rfl (by decide +kernel) ?_
      refine Draw.take0 rfl (X.move rfl) rfl rfl rfl (by decide +kernel) ?_
      refine Draw.take0 rfl (X.move rfl) rfl rfl rfl (by decide +kernel) ?_
      refine Draw.take0 rfl (X.move rfl) rfl rfl rfl (by decide +kernel) ?_
      have hF : Fr w4 w [sb, gb] := H.fr.mono (by simp)
      have hs := H.fr.get hs4 (by simp)
      have hg := H.fr.get hg4 (by simp)
      have y := H.fr.size
      -- ORDERS10
      -- <R10
      refine Draw.eff2 (i := 5) (j := 7) [8, 7, 9, 10, 11] [5, 8, 9, 10, 11] rfl rfl rfl rfl (by decide +kernel) (Y.make (len := n) (cap := n) rfl rfl (Nat.le_refl _) rfl rfl rfl rfl (by dsimp only; omega) (by omega) rfl (Holds.start w ([] : List Nat)) ?_) (Y.make (len := n) (cap := n) rfl rfl (Nat.le_refl _) rfl rfl rfl rfl (by dsimp only; omega) (by omega) rfl (Holds.start w ([] : List Nat)) ?_)
      · skip
        intro b1 cb1 w1_ H1 zb1 lb1 rb1
        have hf1 := H1.fr
        have k1 := H1.pick .head
        rw [show cb1 = _ from rb1 rfl, ← rowOf_const] at k1
        replace hs := hf1.get hs (by simp)
        replace hg := hf1.get hg (by simp)
        have hF := hF.trans (U := [sb, gb]) hf1 (fun _ h => h) (by simp)
        have y0 := hf1.size
        refine ⟨(fun e he => (List.not_mem_nil he).elim), ?_⟩
        clear H1
        clear H
        have H := Holds.start w1_ []
        refine Draw.take0 rfl (X.indexAddr rfl rfl (by omega) rfl rfl rfl rfl) rfl rfl rfl (by decide +kernel) ?_
        refine Draw.eff2 (i := 7) (j := 9) [9, 10, 11] [7, 10, 11] rfl rfl rfl rfl (by decide +kernel) (Y.make (len := n) (cap := n) rfl rfl (Nat.le_refl _) rfl rfl rfl rfl (by dsimp only; omega) (by omega) rfl (Holds.start w1_ ([] : List Nat)) ?_) (Y.storeI rfl rfl rfl rfl rfl rfl ((Holds.start w1_ [sb]).add true hs (by simp) (by simp)) .head (by omega) ?_)
        · skip
          intro b2 cb2 w2_ H1 zb2 lb2 rb2
          have hf1 := H1.fr
          have k2 := H1.pick .head
          rw [show cb2 = _ from rb2 rfl, ← rowOf_const] at k2
          replace hs := hf1.get hs (by simp)
          replace hg := hf1.get hg (by simp)
          replace k1 := hf1.get k1 (by simp)
          have hF := hF.trans (U := [sb, gb]) hf1 (fun _ h => h) (by simp)
          have y1 := hf1.size
          refine ⟨(fun e he => (List.not_mem_nil he).elim), ?_⟩
          clear H1
          clear H
          have H := Holds.start w2_ []
          skip
          refine Draw.eff (i := 9) rfl rfl (by decide +kernel) (Y.storeI rfl rfl rfl rfl rfl rfl ((Holds.start w2_ [sb]).add true hs (by simp) (by simp)) .head (by omega) ?_)
          intro w3_ H1
          have hf1 := H1.fr
          replace hg := hf1.get hg (by simpa using nsg.symm)
          replace k1 := hf1.get k1 (by simpa using ne_of_ty k1 hs (by decide))
          replace k2 := hf1.get k2 (by simpa using ne_of_ty k2 hs (by decide))
          replace hs := H1.pick .head
          have hF := hF.trans (U := [sb, gb]) hf1 (fun _ h => h) (fun y hy _ => by simp at hy; simp [hy])
          have y2 := hf1.size
          refine ⟨(fun e he => (List.not_mem_nil he).elim), ?_⟩
          clear H1
          clear H
          have H := Holds.start w3_ []
          refine Draw.take0 rfl (X.indexAddr rfl rfl (by omega) rfl rfl rfl rfl) rfl rfl rfl (by decide +kernel) ?_
          refine Draw.eff (i := 11) rfl rfl (by decide +kernel) (Y.storeI rfl rfl rfl rfl rfl rfl ((Holds.start w3_ [gb]).add true hg (by simp) (by simp)) .head (by omega) ?_)
          intro w4_ H1
          have hf1 := H1.fr
          replace hs := hf1.get hs (by simpa using nsg)
          replace k1 := hf1.get k1 (by simpa using ne_of_ty k1 hg (by decide))
          replace k2 := hf1.get k2 (by simpa using ne_of_ty k2 hg (by decide))
          replace hg := H1.pick .head
          have hF := hF.trans (U := [sb, gb]) hf1 (fun _ h => h) (fun y hy _ => by simp at hy; simp [hy])
          have y3 := hf1.size
          refine ⟨(fun e he => (List.not_mem_nil he).elim), ?_⟩
          clear H1
          clear H
          have H := Holds.start w4_ []
          (refine Draw.done (by decide +kernel) (hK _ _ ?_); clear hK K)
          exact go (b1, b2) _ _ ⟨hF.trans (U := [sb, gb]) H.fr (fun _ h => h) (by simp), H.fr.get hs (by simp), H.fr.get hg (by simp), H.fr.get k1 (by simp), H.fr.get k2 (by simp), by dsimp only; omega, by dsimp only; omega⟩ (by repeat (first | exact trivial | refine ⟨rfl, ?_⟩))
        · skip
          intro w2_ H1
          have hf1 := H1.fr
          replace hg := hf1.get hg (by simpa using nsg.symm)
          replace k1 := hf1.get k1 (by simpa using ne_of_ty k1 hs (by decide))
          replace hs := H1.pick .head
          have hF := hF.trans (U := [sb, gb]) hf1 (fun _ h => h) (fun y hy _ => by simp at hy; simp [hy])
          have y1 := hf1.size
          refine ⟨(fun e he => (List.not_mem_nil he).elim), ?_⟩
          clear H1
          refine Draw.eff (i := 7) rfl rfl (by decide +kernel) (Y.make (len := n) (cap := n) rfl rfl (Nat.le_refl _) rfl rfl rfl rfl (by dsimp only; omega) (by omega) rfl (Holds.start w2_ ([] : List Nat)) ?_)
          intro b2 cb2 w3_ H1 zb2 lb2 rb2
          have hf1 := H1.fr
          have k2 := H1.pick .head
          rw [show cb2 = _ from rb2 rfl, ← rowOf_const] at k2
          replace hs := hf1.get hs (by simp)
          replace hg := hf1.get hg (by simp)
          replace k1 := hf1.get k1 (by simp)
          have hF := hF.trans (U := [sb, gb]) hf1 (fun _ h => h) (by simp)
          have y2 := hf1.size
          refine ⟨(fun e he => (List.not_mem_nil he).elim), ?_⟩
          clear H1
          clear H
          have H := Holds.start w3_ []
          refine Draw.take0 rfl (X.indexAddr rfl rfl (by omega) rfl rfl rfl rfl) rfl rfl rfl (by decide +kernel) ?_
          refine Draw.eff (i := 11) rfl rfl (by decide +kernel) (Y.storeI rfl rfl rfl rfl rfl rfl ((Holds.start w3_ [gb]).add true hg (by simp) (by simp)) .head (by omega) ?_)
          intro w4_ H1
          have hf1 := H1.fr
          replace hs := hf1.get hs (by simpa using nsg)
          replace k1 := hf1.get k1 (by simpa using ne_of_ty k1 hg (by decide))
          replace k2 := hf1.get k2 (by simpa using ne_of_ty k2 hg (by decide))
          replace hg := H1.pick .head
          have hF := hF.trans (U := [sb, gb]) hf1 (fun _ h => h) (fun y hy _ => by simp at hy; simp [hy])
          have y3 := hf1.size
          refine ⟨(fun e he => (List.not_mem_nil he).elim), ?_⟩
          clear H1
          clear H
          have H := Holds.start w4_ []
          (refine Draw.done (by decide +kernel) (hK _ _ ?_); clear hK K)
          exact go (b1, b2) _ _ ⟨hF.trans (U := [sb, gb]) H.fr (fun _ h => h) (by simp), H.fr.get hs (by simp), H.fr.get hg (by simp), H.fr.get k1 (by simp), H.fr.get k2 (by simp), by dsimp only; omega, by dsimp only; omega⟩ (by repeat (first | exact trivial | refine ⟨rfl, ?_⟩))
      · skip
        intro b2 cb2 w1_ H1 zb2 lb2 rb2
        have hf1 := H1.fr
        have k2 := H1.pick .head
        rw [show cb2 = _ from rb2 rfl, ← rowOf_const] at k2
        replace hs := hf1.get hs (by simp)
        replace hg := hf1.get hg (by simp)
        have hF := hF.trans (U := [sb, gb]) hf1 (fun _ h => h) (by simp)
        have y0 := hf1.size
        refine ⟨(fun e he => (List.not_mem_nil he).elim), ?_⟩
        clear H1
        refine Draw.eff (i := 5) rfl rfl (by decide +kernel) (Y.make (len := n) (cap := n) rfl rfl (Nat.le_refl _) rfl rfl rfl rfl (by dsimp only; omega) (by omega) rfl (Holds.start w1_ ([] : List Nat)) ?_)
        intro b1 cb1 w2_ H1 zb1 lb1 rb1
        have hf1 := H1.fr
        have k1 := H1.pick .head
        rw [show cb1 = _ from rb1 rfl, ← rowOf_const] at k1
        replace hs := hf1.get hs (by simp)
        replace hg := hf1.get hg (by simp)
        replace k2 := hf1.get k2 (by simp)
        have hF := hF.trans (U := [sb, gb]) hf1 (fun _ h => h) (by simp)
        have y1 := hf1.size
        refine ⟨(fun e he => (List.not_mem_nil he).elim), ?_⟩
        clear H1
        clear H
        have H := Holds.start w2_ []
        refine Draw.take0 rfl (X.indexAddr rfl rfl (by omega) rfl rfl rfl rfl) rfl rfl rfl (by decide +kernel) ?_
        refine Draw.eff (i := 9) rfl rfl (by decide +kernel) (Y.storeI rfl rfl rfl rfl rfl rfl ((Holds.start w2_ [sb]).add true hs (by simp) (by simp)) .head (by omega) ?_)
        intro w3_ H1
        have hf1 := H1.fr
        replace hg := hf1.get hg (by simpa using nsg.symm)
        replace k2 := hf1.get k2 (by simpa using ne_of_ty k2 hs (by decide))
        replace k1 := hf1.get k1 (by simpa using ne_of_ty k1 hs (by decide))
        replace hs := H1.pick .head
        have hF := hF.trans (U := [sb, gb]) hf1 (fun _ h => h) (fun y hy _ => by simp at hy; simp [hy])
        have y2 := hf1.size
        refine ⟨(fun e he => (List.not_mem_nil he).elim), ?_⟩
        clear H1
        clear H
        have H := Holds.start w3_ []
        refine Draw.take0 rfl (X.indexAddr rfl rfl (by omega) rfl rfl rfl rfl) rfl rfl rfl (by decide +kernel) ?_
        refine Draw.eff (i := 11) rfl rfl (by decide +kernel) (Y.storeI rfl rfl rfl rfl rfl rfl ((Holds.start w3_ [gb]).add true hg (by simp) (by simp)) .head (by omega) ?_)
        intro w4_ H1
        have hf1 := H1.fr
        replace hs := hf1.get hs (by simpa using nsg)
        replace k2 := hf1.get k2 (by simpa using ne_of_ty k2 hg (by decide))
        replace k1 := hf1.get k1 (by simpa using ne_of_ty k1 hg (by decide))
        replace hg := H1.pick .head
        have hF := hF.trans (U := [sb, gb]) hf1 (fun _ h => h) (fun y hy _ => by simp at hy; simp [hy])
        have y3 := hf1.size
        refine ⟨(fun e he => (List.not_mem_nil he).elim), ?_⟩
        clear H1
        clear H
        have H := Holds.start w4_ []
        (refine Draw.done (by decide +kernel) (hK _ _ ?_); clear hK K)
        exact go (b1, b2) _ _ ⟨hF.trans (U := [sb, gb]) H.fr (fun _ h => h) (by simp), H.fr.get hs (by simp), H.fr.get hg (by simp), H.fr.get k1 (by simp), H.fr.get k2 (by simp), by dsimp only; omega, by dsimp only; omega⟩ (by repeat (first | exact trivial | refine ⟨rfl, ?_⟩))
      -- R10>
      -- END10
    · obtain rfl : x = n := by omega
      have hTs : Tab w4 sb 45 50 x sr fun _ _ => .slice none 0 0 := ⟨by rw [hs4, rowOf_of hsl4 (fun i hi => (hr4 i hi).1)], fun i hi => (hr4 i hi).2.1, fun i j hi hj hij => (hd4 i j hi hj hij).1⟩
      have hTg : Tab w4 gb 46 3 x gr fun _ _ => .int .i64 0 := ⟨by rw [hg4, rowOf_of hgl4 (fun i hi => (hr4 i hi).2.2.2.1)], fun i hi => (hr4 i hi).2.2.2.2.1, fun i j hi hj hij => (hd4 i j hi hj hij).2⟩
      have hzr : ∀ i, i < x → w2.heap.size ≤ sr i ∧ w2.heap.size ≤ gr i := fun i hi => ⟨(hr4 i hi).2.2.1, (hr4 i hi).2.2.2.2.2⟩
      clear hs4 hsl4 hg4 hgl4 hr4 hd4 IH hlt hx
      have H := Holds.start w4 []
      refine Run.seq ?_
      refine Run.seq ?_
      (refine Run.region ?_; intro K hK)
      refine Ops.pure H (X.move rfl) rfl rfl rfl ?_
      refine Ops.pure H (X.move rfl) rfl rfl rfl ?_
      refine Ops.pure H (X.cmp rfl rfl rfl) rfl rfl rfl ?_
      (refine Ops.nil (hK _ _ ?_); clear hK K)
      refine Run.cond_dec rfl (fun h37 => ?x1) (fun h37 => ?y1)
      case' y1 =>
        refine Run.exit rfl ?_
        refine Run.seq ?_
        (refine Run.region ?_; intro K hK)
        refine Ops.pure H (X.move rfl) rfl rfl rfl ?_
      case' x1 => exfalso; omega
      refine Ops.eff rfl (Y.make (len := x) (cap := x) rfl rfl (Nat.le_refl _) rfl rfl rfl rfl (by dsimp only; omega) (by omega) rfl H ?_)
      intro qb qcs w5 H hqb hql _
      dsimp only at hql
      refine Ops.pure H (X.assign rfl) rfl rfl rfl ?_
      (refine Ops.nil (hK _ _ ?_); clear hK K)
      refine Run.seq ?_
      refine Run.seq ?_
      (refine Run.region ?_; intro K hK)
      refine Ops.pure H (X.assign rfl) rfl rfl rfl ?_
      (refine Ops.nil (hK _ _ ?_); clear hK K)
      refine Run.block ?_
      refine Run.rounds (fun (y : Nat) => [(0, .int .i64 (x : Nat)), (1, .slice aa an acap), (5, .pointer (some ⟨pb, 0, none⟩)), (7, .slice (some ⟨sb, 0, none⟩) x x), (8, .slice (some ⟨gb, 0, none⟩) x x), (10, .slice (some ⟨qb, 0, none⟩) x x), (11, .int .i64 (y : Nat))])
        (fun y w' => y ≤ x ∧ Fr w4 w' [] ∧ ∃ (cs : List Value) (rows : Nat → Nat), w'.heap[qb]? = some (row cs 46) ∧ cs.length = x ∧ (∀ i, i < y → cs[i]? = some (.slice (some ⟨rows i, 0, none⟩) x x) ∧ w'.heap[rows i]? = some (row (rowOf x fun _ => .int .i64 0) 3) ∧ w4.heap.size ≤ rows i) ∧ ∀ i j, i < y → j < y → i ≠ j → rows i ≠ rows j)
        (fun y => x - y) 0 (by repeat (first | exact trivial | refine ⟨rfl, ?_⟩)) ⟨by omega, H.fr, qcs, fun _ => 0, H.pick (b := qb) (by first | exact .head | exact .tail .head | exact .tail (.tail .head) | exact .tail (.tail (.tail .head)) | exact .tail (.tail (.tail (.tail .head))) | exact .tail (.tail (.tail (.tail (.tail .head)))) | exact .tail (.tail (.tail (.tail (.tail (.tail .head)))))), by rw [hql, Nat.mul_one], fun i hi => by omega, fun i j hi => by omega⟩ ?_
      clear H
      rintro y w6 ⟨hy, hF6, cs, qr, hq6, hl6, hr6, hd6⟩ IH
      by_cases hlt : y < x
      · have H := (Holds.start w6 [qb]).add true hq6 (by simp) (by simp)
        refine Run.seq ?_
        refine Run.seq ?_
        (refine Run.region ?_; intro K hK)
        refine Ops.pure H (X.move rfl) rfl rfl rfl ?_
        refine Ops.pure H (X.move rfl) rfl rfl rfl ?_
        refine Ops.pure H (X.cmp rfl rfl rfl) rfl rfl rfl ?_
        (refine Ops.nil (hK _ _ ?_); clear hK K)
        refine Run.cond_dec rfl (fun h54 => ?x2) (fun h54 => ?y2)
        case' y2 => exfalso; omega
        case' x2 =>
          refine Run.skip ?_
          refine Run.seq ?_
          refine Run.block ?_
          (refine Run.region ?_; intro K hK)
          refine Ops.pure H (X.move rfl) rfl rfl rfl ?_
          refine Ops.pure H (X.move rfl) rfl rfl rfl ?_
          refine Ops.pure H (X.move rfl) rfl rfl rfl ?_
        refine Ops.eff rfl (Y.make (len := x) (cap := x) rfl rfl (Nat.le_refl _) rfl rfl rfl rfl (by dsimp only; omega) (by omega) rfl H ?_)
        intro rb rcs w7 H hrb hrl hrrep
        have hrc : rcs = List.replicate x (.int .i64 0) := hrrep rfl
        refine Ops.pure H (X.indexAddr rfl rfl (by omega) rfl rfl rfl rfl) rfl rfl rfl ?_
        (refine Ops.eff rfl (Y.storeI rfl rfl rfl rfl rfl rfl H (.tail .head) (by omega) ?_); intro w H0; clear H; have H := H0; clear H0)
        (refine Ops.nil (hK _ _ ?_); clear hK K)
        refine Run.inBlock ?_
        (refine Run.region ?_; intro K hK)
        refine Ops.pure H (X.move rfl) rfl rfl rfl ?_
        refine Ops.pure H (X.succ rfl rfl (by omega)) rfl rfl rfl ?_
        refine Ops.pure H (X.assign rfl) rfl rfl rfl ?_
        (refine Ops.nil (hK _ _ ?_); clear hK K)
        have hw3 := hF6.size
        have hro : ∀ i, i < y → qr i ≠ qb := fun i hi => ne_of_ty (hr6 i hi).2.1 hq6 (by decide)
        have hrl : ∀ i, i < y → qr i < w6.heap.size := fun i hi => lt_of_at (hr6 i hi).2.1
        refine (IH (y + 1) _ (by omega) ⟨by omega, hF6.trans H.fr (by simp) (fun u hu hl => by simp at hu; omega), _, updb qr y rb, H.pick (b := qb) (by first | exact .head | exact .tail .head | exact .tail (.tail .head) | exact .tail (.tail (.tail .head)) | exact .tail (.tail (.tail (.tail .head))) | exact .tail (.tail (.tail (.tail (.tail .head)))) | exact .tail (.tail (.tail (.tail (.tail (.tail .head)))))), by simp [hl6], fun i hi => ?_, fun i j hi hj hij => ?_⟩).weak (by repeat (first | exact trivial | refine ⟨rfl, ?_⟩))
        · by_cases e : i = y
          · subst e
            rw [updb_self]
            refine ⟨by simp only [Nat.zero_add, Nat.mul_one]; rw [List.getElem?_set_self (by omega)], ?_, by omega⟩
            rw [rowOf_const, ← hrc]
            exact H.pick (b := rb) (by first | exact .head | exact .tail .head | exact .tail (.tail .head) | exact .tail (.tail (.tail .head)) | exact .tail (.tail (.tail (.tail .head))) | exact .tail (.tail (.tail (.tail (.tail .head)))) | exact .tail (.tail (.tail (.tail (.tail (.tail .head))))))
          · obtain ⟨q1, q2, q3⟩ := hr6 i (by omega)
            rw [updb_ne e]
            refine ⟨?_, H.fr.get q2 (by simpa using hro i (by omega)), q3⟩
            simp only [Nat.zero_add, Nat.mul_one]
            rw [List.getElem?_set_ne (fun e' => e e'.symm)]
            exact q1
        · by_cases e : i = y
          · subst e
            rw [updb_self, updb_ne (fun e => hij e.symm)]
            have := hrl j (by omega)
            omega
          · rw [updb_ne e]
            by_cases e' : j = y
            · subst e'
              rw [updb_self]
              have := hrl i (by omega)
              omega
            · rw [updb_ne e']
              exact hd6 i j (by omega) (by omega) hij
      · obtain rfl : y = x := by omega
        have hw4 := hF6.size
        have hTS : TS w6 y ⟨sb, gb, qb, sr, gr, qr, fun _ _ => .slice none 0 0, fun _ _ => none⟩ os0 := by
          refine ⟨hTs.ext hF6, hTg.ext hF6, ⟨by rw [hq6, rowOf_of hl6 (fun i hi => (hr6 i hi).1)], fun i hi => (hr6 i hi).2.1, hd6⟩, fun f t _ _ => Lst.nil, fun f t f' t' q _ _ _ _ e _ => (nomatch e), fun i j hi hj => ?_, ?_⟩
          · have := (hr6 j hj).2.2
            have := lt_of_at (hTg.r i hi)
            dsimp only
            omega
          · have := lt_of_at hTg.o
            dsimp only
            omega
        have hF2 := hF4.then hF6
        have hz2 := D0.fr.size
        have hZ : ∀ b, TBl y ⟨sb, gb, qb, sr, gr, qr, fun _ _ => .slice none 0 0, fun _ _ => none⟩ b → z.heap.size ≤ b := by
          have hz4 := hF4.size
          rintro b (e | e | e | ⟨i, hi, e | e | e⟩ | ⟨f, t, _, _, e⟩)
          · dsimp only at e; omega
          · dsimp only at e; omega
          · dsimp only at e; omega
          · have := (hzr i hi).1; dsimp only at e; omega
          · have := (hzr i hi).2; dsimp only at e; omega
          · have := (hr6 i hi).2.2; dsimp only at e; omega
          · cases e
        have D6 := D0.ext hF2
        clear IH hlt hl6 hr6 hd6 hq6 hzr hTs hTg hF6 hF4 hqb hql
        have H := Holds.start w6 []
        refine Run.seq ?_
        refine Run.seq ?_
        (refine Run.region ?_; intro K hK)
        refine Ops.pure H (X.move rfl) rfl rfl rfl ?_
        refine Ops.pure H (X.move rfl) rfl rfl rfl ?_
        refine Ops.pure H (X.cmp rfl rfl rfl) rfl rfl rfl ?_
        (refine Ops.nil (hK _ _ ?_); clear hK K)
        refine Run.cond_dec rfl (fun h54 => ?x3) (fun h54 => ?y3)
        case' y3 =>
          refine Run.exit rfl ?_
          refine Run.seq ?_
          refine Run.seq ?_
          (refine Run.region ?_; intro K hK)
          refine Ops.pure H (X.assign rfl) rfl rfl rfl ?_
          (refine Ops.nil (hK _ _ ?_); clear hK K)
          refine Run.block ?_
        case' x3 => exfalso; omega
        refine Run.rounds (fun (i : Nat) => [(0, .int .i64 (y : Nat)), (1, .slice aa an acap), (5, .pointer (some ⟨pb, 0, none⟩)), (7, .slice (some ⟨sb, 0, none⟩) y y), (8, .slice (some ⟨gb, 0, none⟩) y y), (10, .slice (some ⟨qb, 0, none⟩) y y), (12, .int .i64 (i : Nat))])
          (fun i w' => i ≤ an ∧ ∃ g s o sv sx, Solo z w' pb (.pointer dp) g s ∧ TS w' y ⟨sb, gb, qb, sr, gr, qr, sv, sx⟩ o ∧ (∀ b, TBl y ⟨sb, gb, qb, sr, gr, qr, sv, sx⟩ b → z.heap.size ≤ b) ∧ s.Ok i ∧ s.Inv ∧ s.n = y ∧ Onc y s o)
          (fun i => an - i) 0 (by repeat (first | exact trivial | refine ⟨rfl, ?_⟩)) ⟨by omega, g0, ns0 y, os0, _, _, D6.ext H.fr, hTS.ext H.fr, hZ, ns0_ok y, ns0_inv y, rfl, onc0 y⟩ ?_
        clear H D6 hTS hZ D0 hF2 hpr hap hg0 hh0 hf2 hpz hfree hnP hnI hnR hsz1 hf1 hsb hgb hdp nsg
        rintro i wa ⟨hi, g, s, o, sv, sx, D, hT, hZ, hok, hinv, hsn, hon⟩ IH
        have hA1 := hA.1
        by_cases hlt : i < an
        · obtain ⟨hcs, hxs, hxl, hxi⟩ := hA.2.2 i hlt
          obtain ⟨rfl, hab⟩ := hA.2.1 (by omega)
          generalize A i = ai at hcs hxs hxl hxi
          obtain ⟨c, bv⟩ := ai
          dsimp only at hcs hxs hxl hxi
          have habw := D.fr.get hab (by simp)
          have hbvw := hxs.ext D.fr
          obtain ⟨ba, bc, rfl⟩ : ∃ a cp, bv = .slice a c.b.length cp := by obtain ⟨a, cp, _, _, _, _, _, h1, _⟩ := hxs; exact ⟨a, cp, h1⟩
          have hbz : ∀ a, ba = some a → 0 < c.b.length → a.block < z.heap.size := by
            intro a e hm
            obtain ⟨a', cap', b', off', cs', T', fz', e', _, _, h4, _⟩ := hxs
            simp at e'
            obtain ⟨e4, h5⟩ := h4 hm
            rw [← e'.1, e] at e4
            cases e4
            exact lt_of_at h5
          unfold acC at hcs
          have H := (Holds.start wa []).add false habw (by simp) (by simp)
          refine Run.seq ?_
          refine Run.seq ?_
          (refine Run.region ?_; intro K hK)
          refine Ops.pure H (X.move rfl) rfl rfl rfl ?_
          refine Ops.pure H (X.move rfl) rfl rfl rfl ?_
          refine Ops.pure H (X.len_slice rfl rfl rfl) rfl rfl rfl ?_
          refine Ops.pure H (X.cmp rfl rfl rfl) rfl rfl rfl ?_
          (refine Ops.nil (hK _ _ ?_); clear hK K)
          refine Run.cond_dec rfl (fun h65 => ?x4) (fun h65 => ?y4)
          case' y4 => exfalso; omega
          case' x4 =>
            refine Run.skip ?_
            refine Run.seq ?_
            refine Run.block ?_
            refine Run.seq ?_
            (refine Run.region ?_; intro K hK)
            refine Ops.pure H (X.move rfl) rfl rfl rfl ?_
            refine Ops.pure H (X.move rfl) rfl rfl rfl ?_
            refine Ops.pure H (X.indexAddr rfl rfl (by omega) rfl rfl rfl rfl) rfl rfl rfl ?_
            refine Ops.pure H (X.loadN rfl rfl rfl Pick.head (by assumption)) rfl rfl rfl ?_
            (refine Ops.eff rfl (Y.alloc rfl rfl rfl H ?_); intro b13 w H0 hb13; clear H; have H := H0; clear H0)
            (refine Ops.eff rfl (Y.storeO rfl rfl rfl rfl rfl rfl H Upd.head rfl ?_); intro w H0; clear H; have H := H0; clear H0)
            (refine Ops.nil (hK _ _ ?_); clear hK K)
            refine Run.seq ?_
            refine Run.seq ?_
            (refine Run.region ?_; intro K hK)
            refine Ops.pure H (X.fieldAddr rfl rfl rfl rfl rfl rfl) rfl rfl rfl ?_
            refine Ops.pure H (X.load1 rfl rfl rfl rfl Pick.head rfl) rfl rfl rfl ?_
            (refine Ops.nil (hK _ _ ?_); clear hK K)
          have hpbz : pb ≠ b13 := by have := lt_of_at D.pr; omega
          have hfl := hok.fly.1
          have D13 := D.ext H.fr
          have k13 := H.pick (b := b13) (by first | exact .head | exact .tail .head | exact .tail (.tail .head) | exact .tail (.tail (.tail .head)) | exact .tail (.tail (.tail (.tail .head))) | exact .tail (.tail (.tail (.tail (.tail .head)))) | exact .tail (.tail (.tail (.tail (.tail (.tail .head))))))
          have hT13 := hT.ext H.fr
          have hbv13 := hbvw.ext H.fr
          obtain ⟨w13, hw13⟩ : ∃ w13, w13 = w := ⟨_, rfl⟩
          subst hw13
          have hbn13 : z.heap.size ≤ b13 := by have := D.fr.size; omega
          refine Run.meet (fun (_ : Unit) => [(0, .int .i64 (y : Nat)), (1, .slice (some ⟨ab, aoff, none⟩) an acap), (5, .pointer (some ⟨pb, 0, none⟩)), (7, .slice (some ⟨sb, 0, none⟩) y y), (8, .slice (some ⟨gb, 0, none⟩) y y), (10, .slice (some ⟨qb, 0, none⟩) y y), (12, .int .i64 (i : Nat)), (13, .pointer (some ⟨b13, 0, none⟩))])
            (fun _ w' => Fr w13 w' [b13] ∧ w'.heap[b13]? = some (row [.int .i64 c.kind, .int .i64 c.a, .int .i64 c.to, .int .i64 (s.place c), .slice ba c.b.length bc, .bool false] 30)) ?_ ?_
          rotate_left
          · intro kk go
            clear H
            have H := ((Holds.start w13 [b13]).add true k13 (by simp) (by simp)).add false D13.pr (by simpa using hpbz) (by simp)
            cases hh : c.how with
            | false =>
              rw [hh] at H
              refine Run.cond_false rfl ?_
              refine Run.skip ?_
              exact go () _ _ ⟨H.fr, by have := H.pick (b := b13) (by first | exact .head | exact .tail .head | exact .tail (.tail .head) | exact .tail (.tail (.tail .head)) | exact .tail (.tail (.tail (.tail .head))) | exact .tail (.tail (.tail (.tail (.tail .head)))) | exact .tail (.tail (.tail (.tail (.tail (.tail .head)))))); unfold Ns.place; rw [hh]; exact this⟩ (by repeat (first | exact trivial | refine ⟨rfl, ?_⟩))
            | true =>
              rw [hh] at H
              refine Run.cond_true rfl ?_
              (refine Run.draw H [10, 12] [0, 1, 2, 3, 4, 5, 6, 7, 8, 9, 10, 11, 12] ?_; clear H; intro K hK w H)
              refine Draw.take0 rfl (X.fieldAddr rfl rfl rfl rfl rfl rfl) rfl rfl rfl (by decide +kernel) ?_
              refine Draw.take rfl (X.load1 rfl rfl rfl rfl (.tail .head) rfl) rfl rfl rfl (by decide +kernel) ?_
              refine Draw.take0 rfl (X.move rfl) rfl rfl rfl (by decide +kernel) ?_
              refine Draw.take0 rfl (X.nilCheck rfl) rfl rfl rfl (by decide +kernel) ?_
              refine Draw.take0 rfl (X.fieldAddr rfl rfl rfl rfl rfl rfl) rfl rfl rfl (by decide +kernel) ?_
              refine Draw.take rfl (X.load1 rfl rfl rfl rfl Pick.head rfl) rfl rfl rfl (by decide +kernel) ?_
              have hd13 := H.fr.drop1 (by rw [k13, hh]; exact H.pick (b := b13) (by first | exact .head | exact .tail .head | exact .tail (.tail .head) | exact .tail (.tail (.tail .head)) | exact .tail (.tail (.tail (.tail .head))) | exact .tail (.tail (.tail (.tail (.tail .head)))) | exact .tail (.tail (.tail (.tail (.tail (.tail .head)))))))
              refine Draw.eff rfl rfl (by decide +kernel) (Y.call rfl rfl (by first | assumption | decide +kernel) rfl (flights_at _ g i rfl (D13.p.ext hd13) (by rw [D13.ag]; exact hok)) rfl ?_)
              rintro v wf ⟨hff, fa, fcap, rfl⟩
              rw [D13.ag]
              replace H := H.ext hff
              refine ⟨H.at_, ?_⟩
              refine Draw.take0 rfl (X.len_slice rfl rfl rfl) rfl rfl rfl (by decide +kernel) ?_
              refine Draw.eff rfl rfl (by decide +kernel) (Y.call rfl rfl (by first | assumption | decide +kernel) rfl (place_any _ c.i s.fly.length (by omega) hxi) rfl ?_)
              rintro v wg ⟨rfl, rfl⟩
              refine ⟨H.at_, ?_⟩
              refine Draw.take0 rfl (X.fieldAddr rfl rfl rfl rfl rfl rfl) rfl rfl rfl (by decide +kernel) ?_
              (refine Draw.last rfl rfl (by decide +kernel) (Y.store1 rfl rfl rfl rfl rfl rfl H (.tail .head) (by repeat (first | exact SetC.zero | apply SetC.succ)) ?_); intro w H0; clear H; have H := H0; clear H0)
              refine Draw2.take rfl (X.fieldAddr rfl rfl rfl rfl rfl rfl) rfl rfl rfl (by decide +kernel) ?_
              (refine Draw2.eff rfl rfl (by decide +kernel) (Y.store1 rfl rfl rfl rfl rfl rfl H (.tail .head) (by repeat (first | exact SetC.zero | apply SetC.succ)) ?_); intro w H0; clear H; have H := H0; clear H0)
              (refine Draw2.done (by decide +kernel) (hK _ _ ?_); clear hK K)
              exact go () _ _ ⟨H.fr, by have := H.pick (b := b13) (by first | exact .head | exact .tail .head | exact .tail (.tail .head) | exact .tail (.tail (.tail .head)) | exact .tail (.tail (.tail (.tail .head))) | exact .tail (.tail (.tail (.tail (.tail .head)))) | exact .tail (.tail (.tail (.tail (.tail (.tail .head)))))); unfold Ns.place; rw [hh]; exact this⟩ (by repeat (first | exact trivial | refine ⟨rfl, ?_⟩))
          · rintro _ w14 ⟨hF14, k14⟩
            have D14 : Solo z w14 pb (.pointer dp) g s := ⟨D13.p.keep hF14 (fun b hb => by simp at hb; subst hb; exact D13.p.apart k13 (by decide)), D13.fr.trans hF14 (by simp) (fun u hu hl => by simp at hu; omega), hF14.get D13.pr (by simpa using hpbz), D13.pf, D13.nP, D13.ag⟩
            have hT14 : TS w14 y ⟨sb, gb, qb, sr, gr, qr, sv, sx⟩ o := hT13.keep hF14 (fun b hb hm => by
              simp at hb
              subst hb
              obtain ⟨cs', T', h1', h2'⟩ := hT13.ty hm
              have e := rows_ne ⟨_, k13⟩ ⟨_, h1'⟩
              subst e
              exact absurd h2' (by decide))
            have hbv14 : Bys w14 (.slice ba c.b.length bc) c.b := hbv13.keep0 hF14 (fun hp b hb a n' cp e => by
              simp at hb e
              have := hbz a e.1 hp
              omega)
            have f13 : ¬ PF g b13 := (D13.p.apart k13 (by decide)).1
            have nt13 : ¬ TBl y ⟨sb, gb, qb, sr, gr, qr, sv, sx⟩ b13 := fun hm => by
              obtain ⟨cs', T', h1', h2'⟩ := hT13.ty hm
              have e := rows_ne ⟨_, k13⟩ ⟨_, h1'⟩
              subst e
              exact absurd h2' (by decide)
            obtain ⟨ci, hci⟩ : ∃ ci, ci = s.place c := ⟨_, rfl⟩
            rw [← hci] at k14
            clear H k13 D13 hT13 hbv13 hT D hbvw
            have H := ((Holds.start w14 []).add false k14 (by simp) (by simp)).add false D14.pr (by simpa using hpbz) (by simp)
            refine Run.seq ?_
            (refine Run.region ?_; intro K hK)
            refine Ops.pure H (X.fieldAddr rfl rfl rfl rfl rfl rfl) rfl rfl rfl ?_
            refine Ops.pure H (X.load1 rfl rfl rfl rfl (.tail .head) rfl) rfl rfl rfl ?_
            (refine Ops.nil (hK _ _ ?_); clear hK K)
            refine Run.block ?_
            refine Run.seq ?_
            (refine Run.region ?_; intro K hK)
            refine Ops.pure H (X.cmp rfl rfl rfl) rfl rfl rfl ?_
            refine Ops.pure H (X.assign rfl) rfl rfl rfl ?_
            (refine Ops.nil (hK _ _ ?_); clear hK K)
            refine Run.cond_dec rfl (fun h95 => ?x5) (fun h95 => ?y5)
            case' y5 =>
              refine Run.seq ?_
              (refine Run.region ?_; intro K hK)
              refine Ops.pure H (X.cmp rfl rfl rfl) rfl rfl rfl ?_
              refine Ops.pure H (X.assign rfl) rfl rfl rfl ?_
              (refine Ops.nil (hK _ _ ?_); clear hK K)
              refine Run.cond_dec rfl (fun h132 => ?x6) (fun h132 => ?y6)
              case' y6 =>
                refine Run.seq ?_
                (refine Run.region ?_; intro K hK)
                refine Ops.pure H (X.cmp rfl rfl rfl) rfl rfl rfl ?_
                refine Ops.pure H (X.assign rfl) rfl rfl rfl ?_
                (refine Ops.nil (hK _ _ ?_); clear hK K)
                refine Run.cond_dec rfl (fun h231 => ?x7) (fun h231 => ?y7)
                case' y7 =>
                  refine Run.seq ?_
                  (refine Run.region ?_; intro K hK)
                  refine Ops.pure H (X.cmp rfl rfl rfl) rfl rfl rfl ?_
                  refine Ops.pure H (X.assign rfl) rfl rfl rfl ?_
                  (refine Ops.nil (hK _ _ ?_); clear hK K)
                  refine Run.cond_dec rfl (fun h304 => ?x8) (fun h304 => ?y8)
                  case' y8 =>
                    refine Run.seq ?_
                    (refine Run.region ?_; intro K hK)
                    refine Ops.pure H (X.move rfl) rfl rfl rfl ?_
                    refine Ops.pure H (X.nilCheck rfl) rfl rfl rfl ?_
                    refine Ops.pure H (X.fieldAddr rfl rfl rfl rfl rfl rfl) rfl rfl rfl ?_
                    refine Ops.pure H (X.load1 rfl rfl rfl rfl Pick.head rfl) rfl rfl rfl ?_
                    refine Ops.pure H (X.buildO rfl rfl rfl rfl rfl rfl) rfl rfl rfl ?_
                    (refine Ops.eff rfl (Y.alloc rfl rfl rfl H ?_); intro b20 w H0 hb20; clear H; have H := H0; clear H0)
                    (refine Ops.eff rfl (Y.storeO rfl rfl rfl rfl rfl rfl H Upd.head rfl ?_); intro w H0; clear H; have H := H0; clear H0)
                    (refine Ops.nil (hK _ _ ?_); clear hK K)
                    (refine Run.region ?_; intro K hK)
                    refine Ops.pure H (X.loadN rfl rfl rfl Pick.head (Cs.take rfl)) rfl rfl rfl ?_
                    refine Ops.pure H (X.loadN rfl rfl rfl (.tail (.tail .head)) (Cs.take rfl)) rfl rfl rfl ?_
                  case' x8 =>
                    refine Run.skip ?_
                    refine Run.inBlock ?_
                    refine Run.inBlock ?_
                    (refine Run.region ?_; intro K hK)
                    refine Ops.pure H (X.move rfl) rfl rfl rfl ?_
                    refine Ops.pure H (X.succ rfl rfl (by omega)) rfl rfl rfl ?_
                    refine Ops.pure H (X.assign rfl) rfl rfl rfl ?_
                    (refine Ops.nil (hK _ _ ?_); clear hK K)
                case' x7 =>
                  refine Run.seq ?_
                  (refine Run.region ?_; intro K hK)
                  refine Ops.pure H (X.move rfl) rfl rfl rfl ?_
                  refine Ops.pure H (X.nilCheck rfl) rfl rfl rfl ?_
                  refine Ops.pure H (X.fieldAddr rfl rfl rfl rfl rfl rfl) rfl rfl rfl ?_
                  refine Ops.pure H (X.load1 rfl rfl rfl rfl Pick.head rfl) rfl rfl rfl ?_
                  refine Ops.pure H (X.move rfl) rfl rfl rfl ?_
              case' x6 => skip
            case' x5 => skip
            · skip
              -- <K0
              refine Run.seq ?_
              (refine Run.draw H [] [0, 1, 2, 3, 4, 5, 6, 7, 8, 9, 10, 11, 12] ?_; clear H; intro K hK w H)
              refine Draw.take0 rfl (X.move rfl) rfl rfl rfl (by decide +kernel) ?_
              refine Draw.take0 rfl (X.nilCheck rfl) rfl rfl rfl (by decide +kernel) ?_
              refine Draw.take0 rfl (X.fieldAddr rfl rfl rfl rfl rfl rfl) rfl rfl rfl (by decide +kernel) ?_
              refine Draw.take rfl (X.load1 rfl rfl rfl rfl Pick.head rfl) rfl rfl rfl (by decide +kernel) ?_
              refine Draw.take0 rfl (X.fieldAddr rfl rfl rfl rfl rfl rfl) rfl rfl rfl (by decide +kernel) ?_
              refine Draw.take rfl (X.load1 rfl rfl rfl rfl (.tail .head) rfl) rfl rfl rfl (by decide +kernel) ?_
              refine Draw.take0 rfl (X.fieldAddr rfl rfl rfl rfl rfl rfl) rfl rfl rfl (by decide +kernel) ?_
              refine Draw.take rfl (X.load1 rfl rfl rfl rfl (.tail .head) rfl) rfl rfl rfl (by decide +kernel) ?_
              refine Draw.take0 rfl (X.fieldAddr rfl rfl rfl rfl rfl rfl) rfl rfl rfl (by decide +kernel) ?_
              refine Draw.take rfl (X.load1 rfl rfl rfl rfl (.tail .head) rfl) rfl rfl rfl (by decide +kernel) ?_
              have hown := hbv14.ext H.fr
              have hwo := H.fr.size
              refine Draw.eff rfl rfl (by decide +kernel) (Y.call rfl rfl (by first | assumption | decide +kernel) rfl (own_any _ _ c.b hown hxl) rfl ?_)
              rintro v w15 ⟨hBo, hf15, hbo⟩
              replace H := H.ext hf15
              refine ⟨H.at_, ?_⟩
              obtain ⟨oa, oc, rfl⟩ := hBo.slice
              have D15 := D14.ext H.fr
              have hT15 := hT14.ext H.fr
              have hbv15 := hbv14.ext H.fr
              have k15 := H.pick (b := b13) (by first | exact .head | exact .tail .head | exact .tail (.tail .head) | exact .tail (.tail (.tail .head)) | exact .tail (.tail (.tail (.tail .head))) | exact .tail (.tail (.tail (.tail (.tail .head)))) | exact .tail (.tail (.tail (.tail (.tail (.tail .head))))))
              have hwz := H.fr.size
              skip
              refine Draw.eff rfl rfl (by decide +kernel) (Y.call rfl rfl (by first | assumption | decide +kernel) rfl (send_any _ g c.a c.to _ c.b i (D15.p.ext (Fr.refl _ _)) (by rw [D15.ag]; exact hok) (by omega) (fun w' S hf hS => (hBo.keep hf (fun b hb hm => D14.p.npf (Nat.le_trans hwo (hbo b hb)) (hS b hm))).bys)) rfl ?_)
              rintro v w16 ⟨rfl, g', st, hab'⟩
              rw [D15.ag] at hab' ⊢
              have k16 := st.get k15 f13
              have kp16 := st.get D15.pr D15.pf
              refine ⟨fun e he => by simp only [List.mem_cons, List.not_mem_nil, or_false] at he; rcases he with rfl | rfl; exact kp16; exact k16, ?_⟩
              have D16 := D15.step st hab'
              have hT16 := hT15.step st D15.p
              have hbv16 : Bys w16 (.slice ba c.b.length bc) c.b := by
                obtain ⟨S, hfS, hS⟩ := st.fr
                exact hbv15.keep0 hfS (fun hp b hb a n' cp e => by
                  simp at e
                  have := hbz a e.1 hp
                  have := D14.nP b (hS b hb)
                  omega)
              clear H
              by_cases he : s.sendE c.a c.to c.b = 0
              · have hft : s.there c.a = true ∧ s.isN c.to = true := by
                  unfold Ns.sendE at he
                  split at he
                  · rename_i q; exact q
                  · cases he
                obtain ⟨f, hf0, hfn, _⟩ := there_iff.1 hft.1
                obtain ⟨t, ht0, htn⟩ := isN_iff.1 hft.2
                rw [hsn] at hfn htn
                have hsend : s.send c.a c.to c.b = s.send1 (f, t) c.b := by unfold Ns.send; rw [if_pos he, hf0, ht0, Int.toNat_natCast, Int.toNat_natCast]
                rw [hsend] at D16
                rw [he]
                rw [hf0, ht0] at k16
                have hr1 := hT16.s.r f hfn
                have ho1 := hT16.s.o
                have hL1 := hT16.l f t hfn htn
                dsimp only at hr1 ho1 hL1
                obtain ⟨va, vc, hsv, _⟩ := hL1.slice
                have hLp := hL1
                rw [hsv] at hLp
                have hoc : (rowOf y fun i => Value.slice (some ⟨sr i, 0, none⟩) y y)[0 + f * 1]? = some (.slice (some ⟨sr f, 0, none⟩) y y) := rowOf_at hfn
                have hrc : (rowOf y (sv f))[0 + t * 1]? = some (.slice va (o.sent f t).length vc) := by rw [rowOf_at htn, hsv]
                have nk1 : b13 ≠ sb := ne_of_ty k16 ho1 (by decide)
                have nk2 : b13 ≠ sr f := ne_of_ty k16 hr1 (by decide)
                have nk3 : sb ≠ sr f := ne_of_ty ho1 hr1 (by decide)
                have H := (((Holds.start w16 [sr f]).add false k16 (by simp) (by simp)).add false ho1 (by simpa using nk1.symm) (by simp)).add true hr1 (by simpa using ⟨nk3.symm, nk2.symm⟩) (by simp)
                refine Draw.take0 rfl (X.cmp rfl rfl rfl) rfl rfl rfl (by decide +kernel) ?_
                (refine Draw.done (by decide +kernel) (hK _ _ ?_); clear hK K)
                refine Run.cond_true rfl ?_
                (refine Run.draw H [22] [0, 1, 2, 3, 4, 5, 6, 7, 8, 9, 10, 11, 12, 13, 14, 15, 16, 17, 18, 19, 20, 21, 22] ?_; clear H; intro K hK w H)
                refine Draw.take0 rfl (X.move rfl) rfl rfl rfl (by decide +kernel) ?_
                refine Draw.take0 rfl (X.fieldAddr rfl rfl rfl rfl rfl rfl) rfl rfl rfl (by decide +kernel) ?_
                refine Draw.take rfl (X.load1 rfl rfl rfl rfl (.tail (.tail .head)) rfl) rfl rfl rfl (by decide +kernel) ?_
                refine Draw.take0 rfl (X.indexAddr rfl rfl (by omega) rfl rfl rfl rfl) rfl rfl rfl (by decide +kernel) ?_
                refine Draw.take rfl (X.load1 rfl rfl rfl rfl (.tail .head) (by assumption)) rfl rfl rfl (by decide +kernel) ?_
                refine Draw.take0 rfl (X.fieldAddr rfl rfl rfl rfl rfl rfl) rfl rfl rfl (by decide +kernel) ?_
                refine Draw.take rfl (X.load1 rfl rfl rfl rfl (.tail (.tail .head)) rfl) rfl rfl rfl (by decide +kernel) ?_
                refine Draw.take0 rfl (X.move rfl) rfl rfl rfl (by decide +kernel) ?_
                refine Draw.take0 rfl (X.fieldAddr rfl rfl rfl rfl rfl rfl) rfl rfl rfl (by decide +kernel) ?_
                refine Draw.take rfl (X.load1 rfl rfl rfl rfl (.tail (.tail .head)) rfl) rfl rfl rfl (by decide +kernel) ?_
                refine Draw.take0 rfl (X.indexAddr rfl rfl (by omega) rfl rfl rfl rfl) rfl rfl rfl (by decide +kernel) ?_
                refine Draw.take rfl (X.load1 rfl rfl rfl rfl (.tail .head) (by assumption)) rfl rfl rfl (by decide +kernel) ?_
                refine Draw.take0 rfl (X.fieldAddr rfl rfl rfl rfl rfl rfl) rfl rfl rfl (by decide +kernel) ?_
                refine Draw.take rfl (X.load1 rfl rfl rfl rfl (.tail (.tail .head)) rfl) rfl rfl rfl (by decide +kernel) ?_
                refine Draw.take0 rfl (X.indexAddr rfl rfl (by omega) rfl rfl rfl rfl) rfl rfl rfl (by decide +kernel) ?_
                refine Draw.take rfl (X.load1 rfl rfl rfl rfl Pick.head (by assumption)) rfl rfl rfl (by decide +kernel) ?_
                refine Draw.take0 rfl (X.fieldAddr rfl rfl rfl rfl rfl rfl) rfl rfl rfl (by decide +kernel) ?_
                refine Draw.take rfl (X.load1 rfl rfl rfl rfl (.tail (.tail .head)) rfl) rfl rfl rfl (by decide +kernel) ?_
                have hd16 := H.fr.drop1 (by rw [hr1]; exact H.pick (b := sr f) (by first | exact .head | exact .tail .head | exact .tail (.tail .head) | exact .tail (.tail (.tail .head)) | exact .tail (.tail (.tail (.tail .head))) | exact .tail (.tail (.tail (.tail (.tail .head)))) | exact .tail (.tail (.tail (.tail (.tail (.tail .head)))))))
                refine Draw.eff (i := 18) rfl rfl (by decide +kernel) (Y.bytesV rfl (hbv16.keep0 hd16 (by simp)) rfl rfl rfl rfl rfl rfl rfl ?_)
                refine ⟨H.at_, ?_⟩
                (refine Draw.eff rfl rfl (by decide +kernel) (Y.buildSliceO rfl rfl rfl rfl rfl rfl rfl rfl H ?_); intro b129 w H0 hb129; clear H; have H := H0; clear H0; refine ⟨fun e he => H.at_ e (by simp only [List.mem_cons, List.not_mem_nil, or_false] at he ⊢; grind), ?_⟩)
                have hsl : (o.sent f t).length ≤ i := by rw [hon.sent f t hfn htn]; exact (hok.way (f, t)).2.1
                have hxb : ∀ b, sx f t = some b → b < w16.heap.size ∧ b ≠ sr f ∧ b ≠ sb ∧ b ≠ b13 := fun b hb => by
                  have hL2 := hL1
                  rw [hb] at hL2
                  obtain ⟨cs', hcs'⟩ := hL2.ty
                  exact ⟨lt_of_at hcs', ne_of_ty hcs' hr1 (by decide), ne_of_ty hcs' ho1 (by decide), ne_of_ty hcs' k16 (by decide)⟩
                have hsz16 := hd16.size
                refine Draw.eff (i := 20) rfl rfl (by decide +kernel) (Y.push (sz := 1) (news := [.string (strOfNums c.b)]) (hLp.keep H.fr (fun b hb hm => (hxb b hb).2.1 (by simpa using hm))) rfl rfl rfl rfl rfl rfl H (fun b hb e he => ?_) (by omega) rfl (Src.row (m := 1) H .head (Cs.take rfl)) rfl rfl (by dsimp only; omega) (by omega) rfl ?_)
                · obtain ⟨q1, q2, q3, q4⟩ := hxb b hb
                  simp at he
                  rcases he with rfl | rfl | rfl | rfl
                  all_goals (dsimp only; omega)
                have hszp := H.fr.size
                intro sb' soff scap scs wp H hc1 hc2 hc3 hc4 hob
                refine ⟨fun e he => H.at_ e (List.mem_cons_of_mem _ (List.mem_cons_of_mem _ he)), ?_⟩
                refine Draw.take0 rfl (X.indexAddr rfl rfl (by omega) rfl rfl rfl rfl) rfl rfl rfl (by decide +kernel) ?_
                refine Draw.last rfl rfl (by decide +kernel) (Y.storeI rfl rfl rfl rfl rfl rfl H (by first | exact .head | exact .tail .head | exact .tail (.tail .head) | exact .tail (.tail (.tail .head)) | exact .tail (.tail (.tail (.tail .head))) | exact .tail (.tail (.tail (.tail (.tail .head)))) | exact .tail (.tail (.tail (.tail (.tail (.tail .head)))))) (by rw [rowOf_len]; omega) ?_)
                intro wq H
                (refine Draw2.done (by decide +kernel) (hK _ _ ?_); clear hK K)
                refine Run.inBlock ?_
                refine Run.inBlock ?_
                (refine Run.region ?_; intro K hK)
                refine Ops.pure H (X.move rfl) rfl rfl rfl ?_
                refine Ops.pure H (X.succ rfl rfl (by omega)) rfl rfl rfl ?_
                refine Ops.pure H (X.assign rfl) rfl rfl rfl ?_
                (refine Ops.nil (hK _ _ ?_); clear hK K)
                have hzx : z.heap.size ≤ w16.heap.size := D16.fr.size
                have hSb : ∀ b ∈ (sx f t).toList ++ [sr f], TBl y ⟨sb, gb, qb, sr, gr, qr, sv, sx⟩ b := fun b hb => by
                  simp at hb
                  rcases hb with e | rfl
                  · exact .inr (.inr (.inr (.inr ⟨f, t, hfn, htn, e⟩)))
                  · exact .inr (.inr (.inr (.inl ⟨f, hfn, .inl rfl⟩)))
                have hT17 := hT16.setSent (l := o.sent f t ++ [c.b]) (ob := some sb') (v := .slice (some ⟨sb', soff, none⟩) ((o.sent f t).length + 1) scap) hfn htn H.fr (fun b hb => by simp at hb; exact hb.symm) (by have := H.pick (b := sr f) (by first | exact .head | exact .tail .head | exact .tail (.tail .head) | exact .tail (.tail (.tail .head)) | exact .tail (.tail (.tail (.tail .head))) | exact .tail (.tail (.tail (.tail (.tail .head)))) | exact .tail (.tail (.tail (.tail (.tail (.tail .head)))))); simpa only [Nat.zero_add, Nat.mul_one] using this) ⟨soff, scap, scs, by simp, by simpa using hc1, hc2, H.pick (b := sb') (by first | exact .head | exact .tail .head | exact .tail (.tail .head) | exact .tail (.tail (.tail .head)) | exact .tail (.tail (.tail (.tail .head))) | exact .tail (.tail (.tail (.tail (.tail .head)))) | exact .tail (.tail (.tail (.tail (.tail (.tail .head)))))), hc3, hc4.cast rfl (by simp) (by simp [strs])⟩ (fun b hb => by cases hb; exact hob.imp (fun e => e) (fun e => by omega))
                refine (IH (i + 1) _ (by omega) ⟨by omega, g', _, _, _, _, D16.tb hT16 hZ H.fr hSb, hT17, ?_, by rw [← hsend]; exact hok.send _ _ _, by rw [← hsend]; exact hinv.send _ _ _, by unfold Ns.send1; rw [flies_n]; exact hsn, hon.sendS hinv _ _ _⟩).weak (by repeat (first | exact trivial | refine ⟨rfl, ?_⟩))
                rintro b (e | e | e | ⟨a, ha, e⟩ | ⟨a, d, ha, hd, e⟩)
                · exact hZ b (.inl e)
                · exact hZ b (.inr (.inl e))
                · exact hZ b (.inr (.inr (.inl e)))
                · exact hZ b (.inr (.inr (.inr (.inl ⟨a, ha, e⟩))))
                · replace e : upd2 sx f t (some sb') a d = some b := e
                  unfold upd2 at e
                  split at e
                  · cases e
                    rcases hob with e | e
                    · exact hZ _ (.inr (.inr (.inr (.inr ⟨f, t, hfn, htn, e⟩))))
                    · omega
                  · exact hZ b (.inr (.inr (.inr (.inr ⟨a, d, ha, hd, e⟩))))
              · have H := Holds.start w16 []
                refine Draw.take0 rfl (X.cmp rfl rfl rfl) rfl rfl rfl (by decide +kernel) ?_
                (refine Draw.done (by decide +kernel) (hK _ _ ?_); clear hK K)
                refine Run.cond_dec rfl (fun h109 => ?x9) (fun h109 => ?y9)
                case' y9 =>
                  refine Run.skip ?_
                  refine Run.inBlock ?_
                  refine Run.inBlock ?_
                  (refine Run.region ?_; intro K hK)
                  refine Ops.pure H (X.move rfl) rfl rfl rfl ?_
                  refine Ops.pure H (X.succ rfl rfl (by omega)) rfl rfl rfl ?_
                  refine Ops.pure H (X.assign rfl) rfl rfl rfl ?_
                  (refine Ops.nil (hK _ _ ?_); clear hK K)
                case' x9 => exfalso; omega
                have hsend : s.send c.a c.to c.b = s := by unfold Ns.send; rw [if_neg he]
                rw [hsend] at D16
                exact (IH (i + 1) _ (by omega) ⟨by omega, g', s, o, sv, sx, D16.ext H.fr, hT16.ext H.fr, hZ, hok.mono (Nat.le_succ i), hinv, hsn, hon⟩).weak (by repeat (first | exact trivial | refine ⟨rfl, ?_⟩))
              -- K0>
            · skip
              -- <K1
              refine Run.seq ?_
              refine Run.meet (fun (x : Value × Nat) => [(0, .int .i64 (y : Nat)), (1, .slice (some ⟨ab, aoff, none⟩) an acap), (5, .pointer (some ⟨pb, 0, none⟩)), (7, .slice (some ⟨sb, 0, none⟩) y y), (8, .slice (some ⟨gb, 0, none⟩) y y), (10, .slice (some ⟨qb, 0, none⟩) y y), (12, .int .i64 (i : Nat)), (13, .pointer (some ⟨b13, 0, none⟩)), (14, .pointer (some ⟨x.2, 0, none⟩)), (15, .bool (s.head c.a).isSome), (16, .int .i64 (s.recvE c.a))])
                (fun x w' => (∃ g', Solo z w' pb (.pointer dp) g' (s.recv c.a)) ∧ TS w' y ⟨sb, gb, qb, sr, gr, qr, sv, sx⟩ o ∧ Bts w' x.1 (s.mess c.a).2 ∧ w'.heap[x.2]? = some (row [.int .i64 ((s.mess c.a).1 : Nat), x.1] 52) ∧ w'.heap[b13]? = some (row [.int .i64 c.kind, .int .i64 c.a, .int .i64 c.to, .int .i64 ci, .slice ba c.b.length bc, .bool false] 30)) ?_ ?_
              rotate_left
              · intro kk go
                refine Run.draw H [] [0, 1, 2, 3, 4, 5, 6, 7, 8, 9, 10, 11, 12, 13, 14] ?_
                clear H
                intro K hK w H
                refine Draw.take0 rfl (X.move rfl) rfl rfl rfl (by decide +kernel) ?_
                refine Draw.take0 rfl (X.nilCheck rfl) rfl rfl rfl (by decide +kernel) ?_
                refine Draw.take0 rfl (X.fieldAddr rfl rfl rfl rfl rfl rfl) rfl rfl rfl (by decide +kernel) ?_
                refine Draw.take rfl (X.load1 rfl rfl rfl rfl Pick.head rfl) rfl rfl rfl (by decide +kernel) ?_
                refine Draw.take0 rfl (X.fieldAddr rfl rfl rfl rfl rfl rfl) rfl rfl rfl (by decide +kernel) ?_
                refine Draw.take rfl (X.load1 rfl rfl rfl rfl (.tail .head) rfl) rfl rfl rfl (by decide +kernel) ?_
                have D15 := D14.ext H.fr
                have hT15 := hT14.ext H.fr
                have k15 := H.pick (b := b13) (by first | exact .head | exact .tail .head | exact .tail (.tail .head) | exact .tail (.tail (.tail .head)) | exact .tail (.tail (.tail (.tail .head))) | exact .tail (.tail (.tail (.tail (.tail .head)))) | exact .tail (.tail (.tail (.tail (.tail (.tail .head))))))
                -- <K1a
                refine Draw.eff2 (i := 6) (j := 11) [7, 8, 9, 10, 11, 12, 13, 14] [6, 7, 8, 9, 10, 12, 13, 14] rfl rfl rfl rfl (by decide +kernel) (Y.call rfl rfl (by first | assumption | decide +kernel) rfl (recv_one _ g c.a D15.p) rfl ?_) (Y.alloc rfl rfl rfl H ?_)
                · rintro v w16 ⟨g', mv, rfl, st, hab', hB, hbl⟩
                  rw [D15.ag] at hab' hB ⊢
                  have k16 := st.get k15 f13
                  have kp16 := st.get D15.pr D15.pf
                  refine ⟨fun e he => by simp only [List.mem_cons, List.not_mem_nil, or_false] at he; rcases he with rfl | rfl; exact kp16; exact k16, ?_⟩
                  have D16 := D15.step st hab'
                  have hT16 := hT15.step st D15.p
                  clear H
                  have H := ((Holds.start w16 []).add false kp16 (by simp) (by simp)).add false k16 (by simpa using hpbz.symm) (by simp)
                  obtain ⟨ka, kc, rfl⟩ := hB.slice
                  refine Draw.take0 rfl (X.move rfl) rfl rfl rfl (by decide +kernel) ?_
                  refine Draw.take0 rfl (X.extract rfl rfl) rfl rfl rfl (by decide +kernel) ?_
                  refine Draw.take0 rfl (X.extract rfl rfl) rfl rfl rfl (by decide +kernel) ?_
                  refine Draw.take0 rfl (X.extract rfl rfl) rfl rfl rfl (by decide +kernel) ?_
                  (refine Draw.eff rfl rfl (by decide +kernel) (Y.alloc rfl rfl rfl H ?_); intro b14 w H0 hb14; clear H; have H := H0; clear H0; refine ⟨fun e he => H.at_ e (by simp only [List.mem_cons, List.not_mem_nil, or_false] at he ⊢; grind), ?_⟩)
                  (refine Draw.eff rfl rfl (by decide +kernel) (Y.storeO rfl rfl rfl rfl rfl rfl H Upd.head rfl ?_); intro w H0; clear H; have H := H0; clear H0; refine ⟨fun e he => H.at_ e (by simp only [List.mem_cons, List.not_mem_nil, or_false] at he ⊢; grind), ?_⟩)
                  refine Draw.take0 rfl (X.assign rfl) rfl rfl rfl (by decide +kernel) ?_
                  refine Draw.take0 rfl (X.assign rfl) rfl rfl rfl (by decide +kernel) ?_
                  (refine Draw.done (by decide +kernel) (hK _ _ ?_); clear hK K)
                  exact go (.slice ka (s.mess c.a).2.length kc, b14) _ _ ⟨⟨g', D16.ext H.fr⟩, hT16.ext H.fr, hB.ext H.fr, H.pick (b := b14) (by first | exact .head | exact .tail .head | exact .tail (.tail .head) | exact .tail (.tail (.tail .head)) | exact .tail (.tail (.tail (.tail .head))) | exact .tail (.tail (.tail (.tail (.tail .head)))) | exact .tail (.tail (.tail (.tail (.tail (.tail .head)))))), H.pick (b := b13) (by first | exact .head | exact .tail .head | exact .tail (.tail .head) | exact .tail (.tail (.tail .head)) | exact .tail (.tail (.tail (.tail .head))) | exact .tail (.tail (.tail (.tail (.tail .head)))) | exact .tail (.tail (.tail (.tail (.tail (.tail .head))))))⟩ (by repeat (first | exact trivial | refine ⟨rfl, ?_⟩))
                · intro b14 w15 H hb14
                  refine ⟨fun e he => H.at_ e (List.mem_cons_of_mem _ he), ?_⟩
                  clear D15 hT15 k15
                  have D15 := D14.ext H.fr
                  have hT15 := hT14.ext H.fr
                  have k15 := H.pick (b := b13) (by first | exact .head | exact .tail .head | exact .tail (.tail .head) | exact .tail (.tail (.tail .head)) | exact .tail (.tail (.tail (.tail .head))) | exact .tail (.tail (.tail (.tail (.tail .head)))) | exact .tail (.tail (.tail (.tail (.tail (.tail .head))))))
                  have k4 := H.pick (b := b14) (by first | exact .head | exact .tail .head | exact .tail (.tail .head) | exact .tail (.tail (.tail .head)) | exact .tail (.tail (.tail (.tail .head))) | exact .tail (.tail (.tail (.tail (.tail .head)))) | exact .tail (.tail (.tail (.tail (.tail (.tail .head))))))
                  have nf := D14.p.npf hb14
                  refine Draw.eff rfl rfl (by decide +kernel) (Y.call rfl rfl (by first | assumption | decide +kernel) rfl (recv_one _ g c.a D15.p) rfl ?_)
                  rintro v w16 ⟨g', mv, rfl, st, hab', hB, hbl⟩
                  rw [D15.ag] at hab' hB ⊢
                  have k16 := st.get k15 f13
                  have k46 := st.get k4 nf
                  have kp16 := st.get D15.pr D15.pf
                  refine ⟨fun e he => by simp only [List.mem_cons, List.not_mem_nil, or_false] at he; rcases he with rfl | rfl; exact kp16; exact k16, ?_⟩
                  have D16 := D15.step st hab'
                  have hT16 := hT15.step st D15.p
                  have n4 : b14 ≠ b13 := ne_of_ty k46 k16 (by decide)
                  clear H
                  have H := (((Holds.start w16 [b14]).add false kp16 (by simp) (by simp)).add false k16 (by simpa using hpbz.symm) (by simp)).add true k46 (by simpa using ⟨n4, (ne_of_ty kp16 k46 (by decide)).symm⟩) (by simp)
                  obtain ⟨ka, kc, rfl⟩ := hB.slice
                  refine Draw.take0 rfl (X.move rfl) rfl rfl rfl (by decide +kernel) ?_
                  refine Draw.take0 rfl (X.extract rfl rfl) rfl rfl rfl (by decide +kernel) ?_
                  refine Draw.take0 rfl (X.extract rfl rfl) rfl rfl rfl (by decide +kernel) ?_
                  refine Draw.take0 rfl (X.extract rfl rfl) rfl rfl rfl (by decide +kernel) ?_
                  (refine Draw.eff rfl rfl (by decide +kernel) (Y.storeO rfl rfl rfl rfl rfl rfl H Upd.head rfl ?_); intro w H0; clear H; have H := H0; clear H0; refine ⟨fun e he => H.at_ e (by simp only [List.mem_cons, List.not_mem_nil, or_false] at he ⊢; grind), ?_⟩)
                  refine Draw.take0 rfl (X.assign rfl) rfl rfl rfl (by decide +kernel) ?_
                  refine Draw.take0 rfl (X.assign rfl) rfl rfl rfl (by decide +kernel) ?_
                  (refine Draw.done (by decide +kernel) (hK _ _ ?_); clear hK K)
                  have h516 : ∀ b ∈ [b14], ∀ cs, w16.heap[b]? ≠ some (row cs 5) := by intro b hb; simp at hb; subst hb; exact not5 k46 (by decide)
                  exact go (.slice ka (s.mess c.a).2.length kc, b14) _ _ ⟨⟨g', D16.apart H.fr (st.nPF (lt_of_at k4) nf) (fun hp => (st.imm _ hp).elim (fun q => by have := D14.p.ltI q; omega) (fun q => by have := lt_of_at k4; omega)) (ne_of_ty kp16 k46 (by decide)) (by have := D14.fr.size; omega)⟩, hT16.apart H.fr k46 (by decide), hB.keepT H.fr h516, H.pick (b := b14) (by first | exact .head | exact .tail .head | exact .tail (.tail .head) | exact .tail (.tail (.tail .head)) | exact .tail (.tail (.tail (.tail .head))) | exact .tail (.tail (.tail (.tail (.tail .head)))) | exact .tail (.tail (.tail (.tail (.tail (.tail .head)))))), H.pick (b := b13) (by first | exact .head | exact .tail .head | exact .tail (.tail .head) | exact .tail (.tail (.tail .head)) | exact .tail (.tail (.tail (.tail .head))) | exact .tail (.tail (.tail (.tail (.tail .head)))) | exact .tail (.tail (.tail (.tail (.tail (.tail .head))))))⟩ (by repeat (first | exact trivial | refine ⟨rfl, ?_⟩))
                -- K1a>
              · rintro ⟨mv, b14⟩ w15 ⟨⟨g', D15⟩, hT15, hB15, k14, k13⟩
                -- <K1b
                dsimp only at hB15 k14 ⊢
                have n4 : b14 ≠ b13 := ne_of_ty k14 k13 (by decide)
                clear H
                have hrn : (s.recv c.a).n = y := by unfold Ns.recv; split; exact hsn; exact hsn
                cases hh : s.head c.a with
                | none =>
                  have H := Holds.start w15 []
                  rw [recv_none hh] at D15
                  refine Run.seq ?_
                  refine Run.seq ?_
                  (refine Run.region ?_; intro K hK)
                  refine Ops.pure H (X.move rfl) rfl rfl rfl ?_
                  refine Ops.pure H (X.cmp rfl rfl rfl) rfl rfl rfl ?_
                  refine Ops.pure H (X.move rfl) rfl rfl rfl ?_
                  refine Ops.split_ndec rfl rfl (fun h148 => ?x10) (fun h148 => ?y10)
                  case' y10 =>
                    refine Ops.pure H (X.move rfl) rfl rfl rfl ?_
                    refine Ops.pure H (X.not rfl) rfl rfl rfl ?_
                    refine Ops.pure H (X.pick_f rfl rfl) rfl rfl rfl ?_
                    (refine Ops.nil (hK _ _ ?_); clear hK K)
                    refine Run.cond_true rfl ?_
                    refine Run.exit rfl ?_
                    (refine Run.region ?_; intro K hK)
                    refine Ops.pure H (X.move rfl) rfl rfl rfl ?_
                    refine Ops.pure H (X.succ rfl rfl (by omega)) rfl rfl rfl ?_
                    refine Ops.pure H (X.assign rfl) rfl rfl rfl ?_
                    (refine Ops.nil (hK _ _ ?_); clear hK K)
                  case' x10 =>
                    refine Ops.pass rfl rfl rfl ?_
                    refine Ops.pass rfl rfl rfl ?_
                    refine Ops.pure H (X.pick_t rfl rfl) rfl rfl rfl ?_
                    (refine Ops.nil (hK _ _ ?_); clear hK K)
                    refine Run.cond_true rfl ?_
                    refine Run.exit rfl ?_
                    (refine Run.region ?_; intro K hK)
                    refine Ops.pure H (X.move rfl) rfl rfl rfl ?_
                    refine Ops.pure H (X.succ rfl rfl (by omega)) rfl rfl rfl ?_
                    refine Ops.pure H (X.assign rfl) rfl rfl rfl ?_
                    (refine Ops.nil (hK _ _ ?_); clear hK K)
                  · exact (IH (i + 1) _ (by omega) ⟨by omega, g', s, o, sv, sx, D15.ext H.fr, hT15.ext H.fr, hZ, hok.mono (Nat.le_succ i), hinv, hsn, hon⟩).weak (by repeat (first | exact trivial | refine ⟨rfl, ?_⟩))
                  · exact (IH (i + 1) _ (by omega) ⟨by omega, g', s, o, sv, sx, D15.ext H.fr, hT15.ext H.fr, hZ, hok.mono (Nat.le_succ i), hinv, hsn, hon⟩).weak (by repeat (first | exact trivial | refine ⟨rfl, ?_⟩))
                | some m =>
                  obtain ⟨t, rest, ht0, htn, hut, hbx, hrE, hrc⟩ := head_some hh
                  have hms : s.mess c.a = m := by unfold Ns.mess; rw [hh]; rfl
                  rw [hsn] at htn
                  obtain ⟨f, b⟩ := m
                  have hfb := (hok.box t).2 (f, b) (by rw [hbx]; exact List.mem_cons_self ..)
                  have hbxl := (hok.box t).1
                  rw [hsn] at hfb
                  obtain ⟨hfn, hbl⟩ := hfb
                  dsimp only at hfn hbl
                  rw [hms] at hB15 k14
                  dsimp only at hB15 k14
                  rw [hrE]
                  rw [hrc] at D15 hrn
                  rw [ht0] at k13
                  obtain ⟨hR1, hR2⟩ := hon.recvS hinv htn hut hfn hbx
                  obtain ⟨l, hl1, hl2, hl3⟩ := hon.up f t hfn htn hut
                  have hol : o.old f t ≤ i := by
                    have h1 := filt_len f (s.box t)
                    rw [hl2] at h1
                    simp only [List.length_append] at h1
                    omega
                  have hgl : o.got f t ≤ i := Nat.le_trans hl3 (hok.way (f, t)).2.2.2.1
                  have hok2 : (s.setB t rest).Ok (i + 1) := by rw [← hrc]; exact (hok.recv _).mono (Nat.le_succ i)
                  have hinv2 : (s.setB t rest).Inv := by rw [← hrc]; exact hinv.recv _
                  have hq1 := hT15.q.r f hfn
                  have hq0 := hT15.q.o
                  have hg1 := hT15.g.r f hfn
                  have hg0 := hT15.g.o
                  dsimp only at hq1 hq0 hg1 hg0
                  have c1 : (rowOf y fun i => Value.slice (some ⟨qr i, 0, none⟩) y y)[0 + f * 1]? = some (.slice (some ⟨qr f, 0, none⟩) y y) := rowOf_at hfn
                  have c2 : (rowOf y fun t => Value.int .i64 (o.old f t : Nat))[0 + t * 1]? = some (.int .i64 (o.old f t : Nat)) := rowOf_at htn
                  have c3 : (rowOf y fun i => Value.slice (some ⟨gr i, 0, none⟩) y y)[0 + f * 1]? = some (.slice (some ⟨gr f, 0, none⟩) y y) := rowOf_at hfn
                  have c4 : (rowOf y fun t => Value.int .i64 (o.got f t : Nat))[0 + t * 1]? = some (.int .i64 (o.got f t : Nat)) := rowOf_at htn
                  obtain ⟨ma, mc, rfl⟩ := hB15.slice
                  by_cases hold : 0 < o.old f t
                  · have H := ((((Holds.start w15 [qr f]).add false k13 (by simp) (by simp)).add false k14 (by simpa using n4) (by simp)).add false hq0 (by simpa using ⟨ne_of_ty hq0 k14 (by decide), ne_of_ty hq0 k13 (by decide)⟩) (by simp)).add true hq1 (by simpa using ⟨ne_of_ty hq1 hq0 (by decide), ne_of_ty hq1 k14 (by decide), ne_of_ty hq1 k13 (by decide)⟩) (by simp)
                    refine Run.seq ?_
                    refine Run.seq ?_
                    (refine Run.region ?_; intro K hK)
                    refine Ops.pure H (X.move rfl) rfl rfl rfl ?_
                    refine Ops.pure H (X.cmp rfl rfl rfl) rfl rfl rfl ?_
                    refine Ops.pure H (X.move rfl) rfl rfl rfl ?_
                    refine Ops.pure H (X.move rfl) rfl rfl rfl ?_
                    refine Ops.pure H (X.not rfl) rfl rfl rfl ?_
                    refine Ops.pure H (X.pick_f rfl rfl) rfl rfl rfl ?_
                    (refine Ops.nil (hK _ _ ?_); clear hK K)
                    refine Run.cond_false rfl ?_
                    refine Run.skip ?_
                    refine Run.seq ?_
                    refine Run.seq ?_
                    (refine Run.region ?_; intro K hK)
                    refine Ops.pure H (X.fieldAddr rfl rfl rfl rfl rfl rfl) rfl rfl rfl ?_
                    refine Ops.pure H (X.load1 rfl rfl rfl rfl (.tail (.tail .head)) rfl) rfl rfl rfl ?_
                    refine Ops.pure H (X.cmp rfl rfl rfl) rfl rfl rfl ?_
                    refine Ops.pure H (X.move rfl) rfl rfl rfl ?_
                    refine Ops.pure H (X.fieldAddr rfl rfl rfl rfl rfl rfl) rfl rfl rfl ?_
                    refine Ops.pure H (X.load1 rfl rfl rfl rfl (.tail (.tail .head)) rfl) rfl rfl rfl ?_
                    refine Ops.pure H (X.move rfl) rfl rfl rfl ?_
                    refine Ops.pure H (X.cmp rfl rfl rfl) rfl rfl rfl ?_
                    refine Ops.pure H (X.pick_f rfl rfl) rfl rfl rfl ?_
                    (refine Ops.nil (hK _ _ ?_); clear hK K)
                    refine Run.cond_dec rfl (fun h159 => ?x11) (fun h159 => ?y11)
                    case' y11 =>
                      refine Run.skip ?_
                      refine Run.seq ?_
                      refine Run.seq ?_
                      (refine Run.draw H [] [0, 1, 2, 3, 4, 5, 6, 7, 8, 9] ?_; clear H; intro K hK w H)
                      refine Draw.take0 rfl (X.move rfl) rfl rfl rfl (by decide +kernel) ?_
                      refine Draw.take0 rfl (X.fieldAddr rfl rfl rfl rfl rfl rfl) rfl rfl rfl (by decide +kernel) ?_
                      refine Draw.take rfl (X.load1 rfl rfl rfl rfl (.tail (.tail .head)) rfl) rfl rfl rfl (by decide +kernel) ?_
                      refine Draw.take0 rfl (X.indexAddr rfl rfl (by omega) rfl rfl rfl rfl) rfl rfl rfl (by decide +kernel) ?_
                      refine Draw.take rfl (X.load1 rfl rfl rfl rfl (.tail .head) (by assumption)) rfl rfl rfl (by decide +kernel) ?_
                      refine Draw.take0 rfl (X.fieldAddr rfl rfl rfl rfl rfl rfl) rfl rfl rfl (by decide +kernel) ?_
                      refine Draw.take rfl (X.load1 rfl rfl rfl rfl (.tail (.tail (.tail .head))) rfl) rfl rfl rfl (by decide +kernel) ?_
                      refine Draw.take0 rfl (X.indexAddr rfl rfl (by omega) rfl rfl rfl rfl) rfl rfl rfl (by decide +kernel) ?_
                      refine Draw.take rfl (X.load1 rfl rfl rfl rfl Pick.head (by assumption)) rfl rfl rfl (by decide +kernel) ?_
                      refine Draw.take0 rfl (X.cmp rfl rfl rfl) rfl rfl rfl (by decide +kernel) ?_
                      (refine Draw.done (by decide +kernel) (hK _ _ ?_); clear hK K)
                      refine Run.cond_dec rfl (fun h169 => ?x12) (fun h169 => ?y12)
                      case' y12 => exfalso; omega
                      case' x12 =>
                        refine Run.seq ?_
                        (refine Run.draw H [11] [0, 1, 2, 3, 4, 5, 6, 7, 8, 9, 10, 11] ?_; clear H; intro K hK w H)
                        refine Draw.take0 rfl (X.move rfl) rfl rfl rfl (by decide +kernel) ?_
                        refine Draw.take0 rfl (X.fieldAddr rfl rfl rfl rfl rfl rfl) rfl rfl rfl (by decide +kernel) ?_
                        refine Draw.take rfl (X.load1 rfl rfl rfl rfl (.tail (.tail .head)) rfl) rfl rfl rfl (by decide +kernel) ?_
                        refine Draw.take0 rfl (X.indexAddr rfl rfl (by omega) rfl rfl rfl rfl) rfl rfl rfl (by decide +kernel) ?_
                        refine Draw.take rfl (X.load1 rfl rfl rfl rfl (.tail .head) (by assumption)) rfl rfl rfl (by decide +kernel) ?_
                        refine Draw.take0 rfl (X.fieldAddr rfl rfl rfl rfl rfl rfl) rfl rfl rfl (by decide +kernel) ?_
                        refine Draw.take rfl (X.load1 rfl rfl rfl rfl (.tail (.tail (.tail .head))) rfl) rfl rfl rfl (by decide +kernel) ?_
                        refine Draw.take0 rfl (X.indexAddr rfl rfl (by omega) rfl rfl rfl rfl) rfl rfl rfl (by decide +kernel) ?_
                        refine Draw.take rfl (X.load1 rfl rfl rfl rfl Pick.head (by assumption)) rfl rfl rfl (by decide +kernel) ?_
                        refine Draw.take0 rfl (X.sub_in rfl rfl (IntWalk.i64_in _ (by omega))) rfl rfl rfl (by decide +kernel) ?_
                        refine Draw.take0 rfl (X.indexAddr rfl rfl (by omega) rfl rfl rfl rfl) rfl rfl rfl (by decide +kernel) ?_
                    case' x11 => exfalso; omega
                    refine Draw.last rfl rfl (by decide +kernel) (Y.storeI rfl rfl rfl rfl rfl rfl H .head (by rw [rowOf_len]; omega) ?_)
                    intro wq H
                    (refine Draw2.done (by decide +kernel) (hK _ _ ?_); clear hK K)
                    refine Run.exit rfl ?_
                    (refine Run.region ?_; intro K hK)
                    refine Ops.pure H (X.move rfl) rfl rfl rfl ?_
                    refine Ops.pure H (X.succ rfl rfl (by omega)) rfl rfl rfl ?_
                    refine Ops.pure H (X.assign rfl) rfl rfl rfl ?_
                    (refine Ops.nil (hK _ _ ?_); clear hK K)
                    have hT17 := hT15.setOld (f := f) (t := t) (v := o.old f t - 1) hfn H.fr (by
                      have h9 := H.pick (b := qr f) (by first | exact .head | exact .tail .head | exact .tail (.tail .head) | exact .tail (.tail (.tail .head)) | exact .tail (.tail (.tail (.tail .head))) | exact .tail (.tail (.tail (.tail (.tail .head)))) | exact .tail (.tail (.tail (.tail (.tail (.tail .head))))))
                      rw [show ((o.old f t - 1 : Nat) : Int) = (o.old f t : Nat) - 1 by omega]
                      simpa only [Nat.zero_add, Nat.mul_one] using h9)
                    exact (IH (i + 1) _ (by omega) ⟨by omega, g', _, _, _, _, D15.tb hT15 hZ H.fr (fun b hb => by simp at hb; subst hb; exact .inr (.inr (.inr (.inl ⟨f, hfn, .inr (.inr rfl)⟩)))), hT17, hZ, hok2, hinv2, hrn, hR1 hold⟩).weak (by repeat (first | exact trivial | refine ⟨rfl, ?_⟩))
                  · have hold0 : o.old f t = 0 := by omega
                    obtain ⟨hsg, hon2⟩ := hR2 hold0
                    have hgs : o.got f t < (o.sent f t).length := by
                      rw [List.getElem?_eq_some_iff] at hsg
                      exact hsg.1
                    have H := (((Holds.start w15 []).add false k13 (by simp) (by simp)).add false k14 (by simpa using n4) (by simp)).add false hq0 (by simpa using ⟨ne_of_ty hq0 k14 (by decide), ne_of_ty hq0 k13 (by decide)⟩) (by simp)
                    replace H := H.add false hq1 (by simpa using ⟨ne_of_ty hq1 hq0 (by decide), ne_of_ty hq1 k14 (by decide), ne_of_ty hq1 k13 (by decide)⟩) (by simp)
                    refine Run.seq ?_
                    refine Run.seq ?_
                    (refine Run.region ?_; intro K hK)
                    refine Ops.pure H (X.move rfl) rfl rfl rfl ?_
                    refine Ops.pure H (X.cmp rfl rfl rfl) rfl rfl rfl ?_
                    refine Ops.pure H (X.move rfl) rfl rfl rfl ?_
                    refine Ops.pure H (X.move rfl) rfl rfl rfl ?_
                    refine Ops.pure H (X.not rfl) rfl rfl rfl ?_
                    refine Ops.pure H (X.pick_f rfl rfl) rfl rfl rfl ?_
                    (refine Ops.nil (hK _ _ ?_); clear hK K)
                    refine Run.cond_false rfl ?_
                    refine Run.skip ?_
                    refine Run.seq ?_
                    refine Run.seq ?_
                    (refine Run.region ?_; intro K hK)
                    refine Ops.pure H (X.fieldAddr rfl rfl rfl rfl rfl rfl) rfl rfl rfl ?_
                    refine Ops.pure H (X.load1 rfl rfl rfl rfl (.tail (.tail .head)) rfl) rfl rfl rfl ?_
                    refine Ops.pure H (X.cmp rfl rfl rfl) rfl rfl rfl ?_
                    refine Ops.pure H (X.move rfl) rfl rfl rfl ?_
                    refine Ops.pure H (X.fieldAddr rfl rfl rfl rfl rfl rfl) rfl rfl rfl ?_
                    refine Ops.pure H (X.load1 rfl rfl rfl rfl (.tail (.tail .head)) rfl) rfl rfl rfl ?_
                    refine Ops.pure H (X.move rfl) rfl rfl rfl ?_
                    refine Ops.pure H (X.cmp rfl rfl rfl) rfl rfl rfl ?_
                    refine Ops.pure H (X.pick_f rfl rfl) rfl rfl rfl ?_
                    (refine Ops.nil (hK _ _ ?_); clear hK K)
                    refine Run.cond_dec rfl (fun h159 => ?x13) (fun h159 => ?y13)
                    case' y13 =>
                      refine Run.skip ?_
                      refine Run.seq ?_
                      refine Run.seq ?_
                      (refine Run.draw H [] [0, 1, 2, 3, 4, 5, 6, 7, 8, 9] ?_; clear H; intro K hK w H)
                      refine Draw.take0 rfl (X.move rfl) rfl rfl rfl (by decide +kernel) ?_
                      refine Draw.take0 rfl (X.fieldAddr rfl rfl rfl rfl rfl rfl) rfl rfl rfl (by decide +kernel) ?_
                      refine Draw.take rfl (X.load1 rfl rfl rfl rfl (.tail (.tail .head)) rfl) rfl rfl rfl (by decide +kernel) ?_
                      refine Draw.take0 rfl (X.indexAddr rfl rfl (by omega) rfl rfl rfl rfl) rfl rfl rfl (by decide +kernel) ?_
                      refine Draw.take rfl (X.load1 rfl rfl rfl rfl (.tail .head) (by assumption)) rfl rfl rfl (by decide +kernel) ?_
                      refine Draw.take0 rfl (X.fieldAddr rfl rfl rfl rfl rfl rfl) rfl rfl rfl (by decide +kernel) ?_
                      refine Draw.take rfl (X.load1 rfl rfl rfl rfl (.tail (.tail (.tail .head))) rfl) rfl rfl rfl (by decide +kernel) ?_
                      refine Draw.take0 rfl (X.indexAddr rfl rfl (by omega) rfl rfl rfl rfl) rfl rfl rfl (by decide +kernel) ?_
                      refine Draw.take rfl (X.load1 rfl rfl rfl rfl Pick.head (by assumption)) rfl rfl rfl (by decide +kernel) ?_
                      refine Draw.take0 rfl (X.cmp rfl rfl rfl) rfl rfl rfl (by decide +kernel) ?_
                      (refine Draw.done (by decide +kernel) (hK _ _ ?_); clear hK K)
                      refine Run.cond_dec rfl (fun h169 => ?x14) (fun h169 => ?y14)
                      case' y14 =>
                        refine Run.skip ?_
                      case' x14 => exfalso; omega
                    case' x13 => exfalso; omega
                    have hwq := H.fr
                    have hL1 := hT15.l f t hfn htn
                    dsimp only at hL1
                    obtain ⟨q, off, cap, cs, hxq, hsv, l1, l2, l3, l4, l5⟩ := hL1.pos (by omega)
                    have hs1 := hT15.s.r f hfn
                    have hs0 := hT15.s.o
                    dsimp only at hs1 hs0
                    have c5 : (rowOf y fun i => Value.slice (some ⟨sr i, 0, none⟩) y y)[0 + f * 1]? = some (.slice (some ⟨sr f, 0, none⟩) y y) := rowOf_at hfn
                    have c6 : (rowOf y (sv f))[0 + t * 1]? = some (.slice (some ⟨q, off, none⟩) (o.sent f t).length cap) := by rw [rowOf_at htn, hsv]
                    have c7 : cs[off + o.got f t * 1]? = some (.string (strOfNums b)) := by
                      rw [Nat.mul_one]
                      exact l5.get _ _ (by unfold strs; rw [List.getElem?_map, hsg]; rfl)
                    clear H
                    have H := (((Holds.start w [gr f]).add false (hwq.get k13 (by simp)) (by simp) (by simp)).add false (hwq.get k14 (by simp)) (by simpa using n4) (by simp)).add false (hwq.get hs0 (by simp)) (by simpa using ⟨ne_of_ty hs0 k14 (by decide), ne_of_ty hs0 k13 (by decide)⟩) (by simp)
                    replace H := H.add false (hwq.get hs1 (by simp)) (by simpa using ⟨ne_of_ty hs1 hs0 (by decide), ne_of_ty hs1 k14 (by decide), ne_of_ty hs1 k13 (by decide)⟩) (by simp)
                    replace H := H.add false (hwq.get l3 (by simp)) (by simpa using ⟨ne_of_ty l3 hs1 (by decide), ne_of_ty l3 hs0 (by decide), ne_of_ty l3 k14 (by decide), ne_of_ty l3 k13 (by decide)⟩) (by simp)
                    replace H := H.add false (hwq.get hg0 (by simp)) (by simpa using ⟨ne_of_ty hg0 l3 (by decide), ne_of_ty hg0 hs1 (by decide), ne_of_ty hg0 hs0 (by decide), ne_of_ty hg0 k14 (by decide), ne_of_ty hg0 k13 (by decide)⟩) (by simp)
                    replace H := H.add true (hwq.get hg1 (by simp)) (by simpa using ⟨ne_of_ty hg1 hg0 (by decide), ne_of_ty hg1 l3 (by decide), ne_of_ty hg1 hs1 (by decide), ne_of_ty hg1 hs0 (by decide), ne_of_ty hg1 k14 (by decide), ne_of_ty hg1 k13 (by decide)⟩) (by simp)
                    have hwm := H.fr
                    refine Run.seq ?_
                    (refine Run.draw H [] [0, 1, 2, 3, 4, 5, 6, 7, 8, 9] ?_; clear H; intro K hK w H)
                    refine Draw.take0 rfl (X.move rfl) rfl rfl rfl (by decide +kernel) ?_
                    refine Draw.take0 rfl (X.fieldAddr rfl rfl rfl rfl rfl rfl) rfl rfl rfl (by decide +kernel) ?_
                    refine Draw.take rfl (X.load1 rfl rfl rfl rfl (.tail (.tail (.tail (.tail (.tail .head))))) rfl) rfl rfl rfl (by decide +kernel) ?_
                    refine Draw.take0 rfl (X.indexAddr rfl rfl (by omega) rfl rfl rfl rfl) rfl rfl rfl (by decide +kernel) ?_
                    refine Draw.take rfl (X.load1 rfl rfl rfl rfl (.tail .head) (by assumption)) rfl rfl rfl (by decide +kernel) ?_
                    refine Draw.take0 rfl (X.fieldAddr rfl rfl rfl rfl rfl rfl) rfl rfl rfl (by decide +kernel) ?_
                    refine Draw.take rfl (X.load1 rfl rfl rfl rfl (.tail (.tail (.tail (.tail (.tail (.tail .head)))))) rfl) rfl rfl rfl (by decide +kernel) ?_
                    refine Draw.take0 rfl (X.indexAddr rfl rfl (by omega) rfl rfl rfl rfl) rfl rfl rfl (by decide +kernel) ?_
                    refine Draw.take rfl (X.load1 rfl rfl rfl rfl Pick.head (by assumption)) rfl rfl rfl (by decide +kernel) ?_
                    refine Draw.take0 rfl (X.assign rfl) rfl rfl rfl (by decide +kernel) ?_
                    (refine Draw.done (by decide +kernel) (hK _ _ ?_); clear hK K)
                    refine Run.seq ?_
                    refine Run.seq ?_
                    (refine Run.draw H [] (0 :: 1 :: 2 :: 3 :: 4 :: 5 :: 6 :: 7 :: 8 :: 9 :: 10 :: 11 :: 12 :: 13 :: 14 :: 15 :: 16 :: 17 :: 18 :: 19 :: 20 :: 21 :: 22 :: 23 :: 24 :: 25 :: 26 :: 27 :: 28 :: 29 :: []) ?_; clear H; intro K hK w H)
                    refine Draw.take0 rfl (X.move rfl) rfl rfl rfl (by decide +kernel) ?_
                    refine Draw.take0 rfl (X.move rfl) rfl rfl rfl (by decide +kernel) ?_
                    refine Draw.take0 rfl (X.fieldAddr rfl rfl rfl rfl rfl rfl) rfl rfl rfl (by decide +kernel) ?_
                    refine Draw.take rfl (X.load1 rfl rfl rfl rfl (.tail (.tail (.tail (.tail (.tail .head))))) rfl) rfl rfl rfl (by decide +kernel) ?_
                    refine Draw.take0 rfl (X.indexAddr rfl rfl (by omega) rfl rfl rfl rfl) rfl rfl rfl (by decide +kernel) ?_
                    refine Draw.take rfl (X.load1 rfl rfl rfl rfl (.tail (.tail (.tail (.tail .head)))) (by assumption)) rfl rfl rfl (by decide +kernel) ?_
                    refine Draw.take0 rfl (X.fieldAddr rfl rfl rfl rfl rfl rfl) rfl rfl rfl (by decide +kernel) ?_
                    refine Draw.take rfl (X.load1 rfl rfl rfl rfl (.tail (.tail (.tail (.tail (.tail (.tail .head)))))) rfl) rfl rfl rfl (by decide +kernel) ?_
                    refine Draw.take0 rfl (X.indexAddr rfl rfl (by omega) rfl rfl rfl rfl) rfl rfl rfl (by decide +kernel) ?_
                    refine Draw.take rfl (X.load1 rfl rfl rfl rfl (.tail (.tail (.tail .head))) (by assumption)) rfl rfl rfl (by decide +kernel) ?_
                    refine Draw.take0 rfl (X.len_slice rfl rfl rfl) rfl rfl rfl (by decide +kernel) ?_
                    refine Draw.take0 rfl (X.cmp rfl rfl rfl) rfl rfl rfl (by decide +kernel) ?_
                    refine Draw.take0 rfl (X.move rfl) rfl rfl rfl (by decide +kernel) ?_
                    refine Draw.split_dec rfl rfl rfl (fun h203 => ?x15) (fun h203 => ?y15)
                    case' y15 =>
                      refine Draw.take0 rfl (X.move rfl) rfl rfl rfl (by decide +kernel) ?_
                      refine Draw.take0 rfl (X.fieldAddr rfl rfl rfl rfl rfl rfl) rfl rfl rfl (by decide +kernel) ?_
                      refine Draw.take rfl (X.load1 rfl rfl rfl rfl (.tail (.tail (.tail (.tail (.tail .head))))) rfl) rfl rfl rfl (by decide +kernel) ?_
                      refine Draw.take0 rfl (X.indexAddr rfl rfl (by omega) rfl rfl rfl rfl) rfl rfl rfl (by decide +kernel) ?_
                      refine Draw.take rfl (X.load1 rfl rfl rfl rfl (.tail (.tail (.tail (.tail .head)))) (by assumption)) rfl rfl rfl (by decide +kernel) ?_
                      refine Draw.take0 rfl (X.fieldAddr rfl rfl rfl rfl rfl rfl) rfl rfl rfl (by decide +kernel) ?_
                      refine Draw.take rfl (X.load1 rfl rfl rfl rfl (.tail (.tail (.tail (.tail (.tail (.tail .head)))))) rfl) rfl rfl rfl (by decide +kernel) ?_
                      refine Draw.take0 rfl (X.indexAddr rfl rfl (by omega) rfl rfl rfl rfl) rfl rfl rfl (by decide +kernel) ?_
                      refine Draw.take rfl (X.load1 rfl rfl rfl rfl (.tail (.tail (.tail .head))) (by assumption)) rfl rfl rfl (by decide +kernel) ?_
                      refine Draw.take0 rfl (X.move rfl) rfl rfl rfl (by decide +kernel) ?_
                      refine Draw.take0 rfl (X.indexAddr rfl rfl (by omega) rfl rfl rfl rfl) rfl rfl rfl (by decide +kernel) ?_
                      refine Draw.take rfl (X.load1 rfl rfl rfl rfl (.tail (.tail .head)) (by assumption)) rfl rfl rfl (by decide +kernel) ?_
                      refine Draw.take0 rfl (X.fieldAddr rfl rfl rfl rfl rfl rfl) rfl rfl rfl (by decide +kernel) ?_
                      refine Draw.take rfl (X.load1 rfl rfl rfl rfl (.tail (.tail (.tail (.tail (.tail .head))))) rfl) rfl rfl rfl (by decide +kernel) ?_
                    case' x15 => exfalso; omega
                    refine Draw.eff (i := 27) rfl rfl (by decide +kernel) (Y.bytesV rfl ((hB15.ext hwq).keepT H.fr (by intro a ha; simp at ha; subst ha; exact not5 (hwq.get hg1 (by simp)) (by decide))).bys rfl rfl rfl rfl rfl rfl rfl ?_)
                    refine ⟨H.at_, ?_⟩
                    refine Draw.take0 rfl (X.strNe rfl rfl) rfl rfl rfl (by decide +kernel) ?_
                    refine Draw.take0 rfl (X.pick_f rfl rfl) rfl rfl rfl (by decide +kernel) ?_
                    (refine Draw.done (by decide +kernel) (hK _ _ ?_); clear hK K)
                    refine Run.cond_ndec rfl (fun h219 => ?x16) (fun h219 => ?y16)
                    case' y16 =>
                      refine Run.skip ?_
                      (refine Run.draw H [11] [0, 1, 2, 3, 4, 5, 6, 7, 8, 9, 10, 11] ?_; clear H; intro K hK w H)
                      refine Draw.take0 rfl (X.move rfl) rfl rfl rfl (by decide +kernel) ?_
                      refine Draw.take0 rfl (X.fieldAddr rfl rfl rfl rfl rfl rfl) rfl rfl rfl (by decide +kernel) ?_
                      refine Draw.take rfl (X.load1 rfl rfl rfl rfl (.tail (.tail (.tail (.tail (.tail .head))))) rfl) rfl rfl rfl (by decide +kernel) ?_
                      refine Draw.take0 rfl (X.indexAddr rfl rfl (by omega) rfl rfl rfl rfl) rfl rfl rfl (by decide +kernel) ?_
                      refine Draw.take rfl (X.load1 rfl rfl rfl rfl (.tail .head) (by assumption)) rfl rfl rfl (by decide +kernel) ?_
                      refine Draw.take0 rfl (X.fieldAddr rfl rfl rfl rfl rfl rfl) rfl rfl rfl (by decide +kernel) ?_
                      refine Draw.take rfl (X.load1 rfl rfl rfl rfl (.tail (.tail (.tail (.tail (.tail (.tail .head)))))) rfl) rfl rfl rfl (by decide +kernel) ?_
                      refine Draw.take0 rfl (X.indexAddr rfl rfl (by omega) rfl rfl rfl rfl) rfl rfl rfl (by decide +kernel) ?_
                      refine Draw.take rfl (X.load1 rfl rfl rfl rfl Pick.head (by assumption)) rfl rfl rfl (by decide +kernel) ?_
                      refine Draw.take0 rfl (X.succ rfl rfl (by omega)) rfl rfl rfl (by decide +kernel) ?_
                      refine Draw.take0 rfl (X.indexAddr rfl rfl (by omega) rfl rfl rfl rfl) rfl rfl rfl (by decide +kernel) ?_
                    case' x16 =>
                      refine Run.seq ?_
                      (refine Run.region ?_; intro K hK)
                      refine Ops.pure H (X.assign rfl) rfl rfl rfl ?_
                      (refine Ops.nil (hK _ _ ?_); clear hK K)
                    · exact absurd rfl h219
                    · refine Draw.last rfl rfl (by decide +kernel) (Y.storeI rfl rfl rfl rfl rfl rfl H .head (by rw [rowOf_len]; omega) ?_)
                      intro wq H
                      (refine Draw2.done (by decide +kernel) (hK _ _ ?_); clear hK K)
                      refine Run.inBlock ?_
                      refine Run.inBlock ?_
                      (refine Run.region ?_; intro K hK)
                      refine Ops.pure H (X.move rfl) rfl rfl rfl ?_
                      refine Ops.pure H (X.succ rfl rfl (by omega)) rfl rfl rfl ?_
                      refine Ops.pure H (X.assign rfl) rfl rfl rfl ?_
                      (refine Ops.nil (hK _ _ ?_); clear hK K)
                      have hTq := hT15.ext hwq
                      have hT17 := hTq.setGot (f := f) (t := t) (v := o.got f t + 1) hfn H.fr (by
                        have h9 := H.pick (b := gr f) (by first | exact .head | exact .tail .head | exact .tail (.tail .head) | exact .tail (.tail (.tail .head)) | exact .tail (.tail (.tail (.tail .head))) | exact .tail (.tail (.tail (.tail (.tail .head)))) | exact .tail (.tail (.tail (.tail (.tail (.tail .head))))))
                        simpa only [Nat.zero_add, Nat.mul_one] using h9)
                      exact (IH (i + 1) _ (by omega) ⟨by omega, g', _, _, _, _, (D15.ext hwq).tb hTq hZ H.fr (fun b hb => by simp at hb; subst hb; exact .inr (.inr (.inr (.inl ⟨f, hfn, .inr (.inl rfl)⟩)))), hT17, hZ, hok2, hinv2, hrn, hon2⟩).weak (by repeat (first | exact trivial | refine ⟨rfl, ?_⟩))
                -- K1b>
              -- K1>
            · skip
              -- <K7
              skip
              have D15 := D14.ext H.fr
              have hT15 := hT14.ext H.fr
              have k15 := H.pick (b := b13) (by first | exact .head | exact .tail .head | exact .tail (.tail .head) | exact .tail (.tail (.tail .head)) | exact .tail (.tail (.tail (.tail .head))) | exact .tail (.tail (.tail (.tail (.tail .head)))) | exact .tail (.tail (.tail (.tail (.tail (.tail .head))))))
              have hgn : g.n = y := by rw [← hsn, ← D14.ag]; rfl
              have hzw := D15.fr.size
              refine Ops.eff rfl (Y.call rfl rfl (by first | assumption | decide +kernel) rfl (count_at _ g i rfl hgn D15.p (by rw [D15.ag]; exact hok) (by omega)) rfl ?_)
              rintro v w16 ⟨hf16, ob, rows, rfl, hob, hrows, hW16⟩
              rw [D15.ag] at hW16
              have D16 := D15.ext hf16
              have hT16 := hT15.ext hf16
              have k16 := hf16.get k15 (by simp)
              have hoB : ∀ j, j < y → rows j ≠ gr j := fun j hj e => by have := lt_of_at (hT15.g.r j hj); have := hrows j hj; dsimp only at *; omega
              have hrB : ∀ j a, j < y → a < y → rows j ≠ gr a ∧ rows j ≠ qr a := fun j a hj ha => by
                have h1 := lt_of_at (hT15.g.r a ha)
                have h2 := lt_of_at (hT15.q.r a ha)
                have h3 := hrows j hj
                dsimp only at h1 h2
                omega
              have hoq : ob ≠ qb ∧ ob ≠ gb := by
                have h1 := lt_of_at hT15.g.o
                have h2 := lt_of_at hT15.q.o
                dsimp only at h1 h2
                omega
              clear H hf16 D15 hT15 k15 hrows hob hoB
              have H := ((Holds.start w16 []).add false k16 (by simp) (by simp)).add false D16.pr (by simpa using hpbz) (by simp)
              refine Ops.pure H (X.assign rfl) rfl rfl rfl ?_
              (refine Ops.nil (hK _ _ ?_); clear hK K)
              refine Run.seq ?_
              refine Run.seq ?_
              (refine Run.region ?_; intro K hK)
              refine Ops.pure H (X.move rfl) rfl rfl rfl ?_
              refine Ops.pure H (X.sliceNil rfl rfl rfl rfl rfl) rfl rfl rfl ?_
              (refine Ops.nil (hK _ _ ?_); clear hK K)
              refine Run.cond_false rfl ?_
              refine Run.skip ?_
              refine Run.seq ?_
              refine Run.seq ?_
              (refine Run.draw H [6] [0, 1, 2, 3, 4, 5, 6, 7] ?_; clear H; intro K hK w H)
              refine Draw.take0 rfl (X.move rfl) rfl rfl rfl (by decide +kernel) ?_
              refine Draw.take0 rfl (X.nilCheck rfl) rfl rfl rfl (by decide +kernel) ?_
              refine Draw.take0 rfl (X.fieldAddr rfl rfl rfl rfl rfl rfl) rfl rfl rfl (by decide +kernel) ?_
              refine Draw.take rfl (X.load1 rfl rfl rfl rfl Pick.head rfl) rfl rfl rfl (by decide +kernel) ?_
              refine Draw.take0 rfl (X.fieldAddr rfl rfl rfl rfl rfl rfl) rfl rfl rfl (by decide +kernel) ?_
              refine Draw.take rfl (X.load1 rfl rfl rfl rfl (.tail .head) rfl) rfl rfl rfl (by decide +kernel) ?_
              have D17 := D16.ext H.fr
              have hT17 := hT16.ext H.fr
              have hW17 := hW16.ext H.fr
              have k17 := H.pick (b := b13) (by first | exact .head | exact .tail .head | exact .tail (.tail .head) | exact .tail (.tail (.tail .head)) | exact .tail (.tail (.tail (.tail .head))) | exact .tail (.tail (.tail (.tail (.tail .head)))) | exact .tail (.tail (.tail (.tail (.tail (.tail .head))))))
              refine Draw.last rfl rfl (by decide +kernel) (Y.call rfl rfl (by first | assumption | decide +kernel) rfl (up_any _ g c.a i D17.p (by rw [D17.ag]; exact hok) (by omega)) rfl ?_)
              rintro v w18 ⟨rfl, g', st, hab'⟩
              rw [D17.ag] at hab' ⊢
              have k18 := st.get k17 f13
              have kp18 := st.get D17.pr D17.pf
              have D18 := D17.step st hab'
              have hT18 := hT17.step st D17.p
              have hW18 : Tab w18 ob 46 3 y rows fun f t => .int .i64 (cnt s f t : Nat) := by
                obtain ⟨S, hfS, hS⟩ := st.fr
                exact hW17.keep hfS (fun hm => (D17.p.apart hW17.o (by decide)).1 (hS _ hm)) (fun j hj hm => (D17.p.apart (hW17.r j hj) (by decide)).1 (hS _ hm))
              clear H D16 hT16 k16 hW16 D17 hT17 hW17 k17
              by_cases hE : s.upE c.a = 0
              · have hA : ∃ a : Nat, c.a = a ∧ a < y ∧ s.up a = false := by
                  unfold Ns.upE at hE
                  split at hE
                  · rename_i q
                    obtain ⟨a, ha, hlt⟩ := isN_iff.1 q
                    rw [ha, Int.toNat_natCast] at hE
                    refine ⟨a, ha, by omega, ?_⟩
                    cases hu : s.up a
                    · rfl
                    · rw [hu] at hE; simp at hE
                  · cases hE
                obtain ⟨A', ha0, han, hdn⟩ := hA
                rw [hE]
                have hup : s.upS c.a = s.upTo A' s.n := by unfold Ns.upS; rw [if_pos hE, ha0, Int.toNat_natCast]
                have hok2 := hok.upS c.a
                have hinv2 := hinv.upS c.a
                have hon2 := hon.upSt hsn han hdn
                rw [hup] at D18 hok2 hinv2
                rw [ha0] at k18
                have hn2 : (s.upTo A' s.n).n = y := (upTo_rest s A' s.n).1.trans hsn
                generalize s.upTo A' s.n = s2 at D18 hok2 hinv2 hon2 hn2
                have H := Holds.start w18 []
                refine Draw2.take rfl (X.cmp rfl rfl rfl) rfl rfl rfl (by decide +kernel) ?_
                (refine Draw2.done (by decide +kernel) (hK _ _ ?_); clear hK K)
                refine Run.cond_false rfl ?_
                refine Run.skip ?_
                refine Run.seq ?_
                (refine Run.region ?_; intro K hK)
                refine Ops.pure H (X.assign rfl) rfl rfl rfl ?_
                (refine Ops.nil (hK _ _ ?_); clear hK K)
                refine Run.block ?_
                refine Run.rounds (fun (x : Nat) => [(0, .int .i64 (y : Nat)), (1, .slice (some ⟨ab, aoff, none⟩) an acap), (5, .pointer (some ⟨pb, 0, none⟩)), (7, .slice (some ⟨sb, 0, none⟩) y y), (8, .slice (some ⟨gb, 0, none⟩) y y), (10, .slice (some ⟨qb, 0, none⟩) y y), (12, .int .i64 (i : Nat)), (13, .pointer (some ⟨b13, 0, none⟩)), (18, .slice (some ⟨ob, 0, none⟩) y y), (19, .int .i64 (x : Nat))])
                  (fun x w' => x ≤ y ∧ ∃ o' sv' sx', Solo z w' pb (.pointer dp) g' s2 ∧ TS w' y ⟨sb, gb, qb, sr, gr, qr, sv', sx'⟩ o' ∧ (∀ b, TBl y ⟨sb, gb, qb, sr, gr, qr, sv', sx'⟩ b → z.heap.size ≤ b) ∧ Tab w' ob 46 3 y rows (fun f t => .int .i64 (cnt s f t : Nat)) ∧ w'.heap[b13]? = some (row [.int .i64 c.kind, .int .i64 (A' : Nat), .int .i64 c.to, .int .i64 ci, .slice ba c.b.length bc, .bool false] 30) ∧ ∀ f t, f < y → t < y → o'.sent f t = (if f = A' ∧ t < x ∨ t = A' ∧ f < x then [] else o.sent f t) ∧ o'.got f t = (if f = A' ∧ t < x ∨ t = A' ∧ f < x then 0 else o.got f t) ∧ o'.old f t = (if t = A' ∧ f < x then 0 else if f = A' ∧ t < x then cnt s A' t else o.old f t))
                  (fun x => y - x) 0 (by repeat (first | exact trivial | refine ⟨rfl, ?_⟩)) ⟨by omega, o, sv, sx, D18.ext H.fr, hT18.ext H.fr, hZ, hW18.ext H.fr, H.fr.get k18 (by simp), fun f t _ _ => by simp⟩ ?_
                clear H D18 hT18 hW18 k18
                rintro x w19 ⟨hx, o', sv', sx', D, hT, hZ', hW, k19, hO⟩ IH2
                by_cases hxy : x < y
                · have hq1 := hT.q.r A' han
                  have hq0 := hT.q.o
                  have hw1 := hW.r A' han
                  have hw0 := hW.o
                  dsimp only at hq1 hq0
                  have c1 : (rowOf y fun i => Value.slice (some ⟨qr i, 0, none⟩) y y)[0 + A' * 1]? = some (.slice (some ⟨qr A', 0, none⟩) y y) := rowOf_at han
                  have c2 : (rowOf y fun i => Value.slice (some ⟨rows i, 0, none⟩) y y)[0 + A' * 1]? = some (.slice (some ⟨rows A', 0, none⟩) y y) := rowOf_at han
                  have c3 : (rowOf y fun t => Value.int .i64 (cnt s A' t : Nat))[0 + x * 1]? = some (.int .i64 (cnt s A' x : Nat)) := rowOf_at hxy
                  have H := ((Holds.start w19 [qr A']).add false k19 (by simp) (by simp)).add false hw0 (by simpa using ne_of_ty hw0 k19 (by decide)) (by simp)
                  replace H := H.add false hw1 (by simpa using ⟨ne_of_ty hw1 hw0 (by decide), ne_of_ty hw1 k19 (by decide)⟩) (by simp)
                  replace H := H.add false hq0 (by simpa using ⟨ne_of_ty hq0 hw1 (by decide), hoq.1.symm, ne_of_ty hq0 k19 (by decide)⟩) (by simp)
                  replace H := H.add true hq1 (by simpa using ⟨ne_of_ty hq1 hq0 (by decide), (hrB A' A' han han).2.symm, ne_of_ty hq1 hw0 (by decide), ne_of_ty hq1 k19 (by decide)⟩) (by simp)
                  refine Run.seq ?_
                  refine Run.seq ?_
                  (refine Run.region ?_; intro K hK)
                  refine Ops.pure H (X.move rfl) rfl rfl rfl ?_
                  refine Ops.pure H (X.move rfl) rfl rfl rfl ?_
                  refine Ops.pure H (X.cmp rfl rfl rfl) rfl rfl rfl ?_
                  (refine Ops.nil (hK _ _ ?_); clear hK K)
                  refine Run.cond_dec rfl (fun h251 => ?x17) (fun h251 => ?y17)
                  case' y17 => exfalso; omega
                  case' x17 =>
                    refine Run.skip ?_
                    refine Run.seq ?_
                    refine Run.block ?_
                    refine Run.seq ?_
                    (refine Run.draw H [15] [0, 1, 2, 3, 4, 5, 6, 7, 8, 9, 10, 11, 12, 13, 14, 15] ?_; clear H; intro K hK w H)
                    refine Draw.take0 rfl (X.move rfl) rfl rfl rfl (by decide +kernel) ?_
                    refine Draw.take0 rfl (X.fieldAddr rfl rfl rfl rfl rfl rfl) rfl rfl rfl (by decide +kernel) ?_
                    refine Draw.take rfl (X.load1 rfl rfl rfl rfl (.tail (.tail (.tail (.tail .head)))) rfl) rfl rfl rfl (by decide +kernel) ?_
                    refine Draw.take0 rfl (X.indexAddr rfl rfl (by omega) rfl rfl rfl rfl) rfl rfl rfl (by decide +kernel) ?_
                    refine Draw.take rfl (X.load1 rfl rfl rfl rfl (.tail .head) (by assumption)) rfl rfl rfl (by decide +kernel) ?_
                    refine Draw.take0 rfl (X.move rfl) rfl rfl rfl (by decide +kernel) ?_
                    refine Draw.take0 rfl (X.move rfl) rfl rfl rfl (by decide +kernel) ?_
                    refine Draw.take0 rfl (X.fieldAddr rfl rfl rfl rfl rfl rfl) rfl rfl rfl (by decide +kernel) ?_
                    refine Draw.take rfl (X.load1 rfl rfl rfl rfl (.tail (.tail (.tail (.tail .head)))) rfl) rfl rfl rfl (by decide +kernel) ?_
                    refine Draw.take0 rfl (X.indexAddr rfl rfl (by omega) rfl rfl rfl rfl) rfl rfl rfl (by decide +kernel) ?_
                    refine Draw.take rfl (X.load1 rfl rfl rfl rfl (.tail (.tail (.tail .head))) (by assumption)) rfl rfl rfl (by decide +kernel) ?_
                    refine Draw.take0 rfl (X.move rfl) rfl rfl rfl (by decide +kernel) ?_
                    refine Draw.take0 rfl (X.indexAddr rfl rfl (by omega) rfl rfl rfl rfl) rfl rfl rfl (by decide +kernel) ?_
                    refine Draw.take rfl (X.load1 rfl rfl rfl rfl (.tail (.tail .head)) (by assumption)) rfl rfl rfl (by decide +kernel) ?_
                    refine Draw.take0 rfl (X.indexAddr rfl rfl (by omega) rfl rfl rfl rfl) rfl rfl rfl (by decide +kernel) ?_
                  refine Draw.last rfl rfl (by decide +kernel) (Y.storeI rfl rfl rfl rfl rfl rfl H .head (by rw [rowOf_len]; omega) ?_)
                  intro w20 H
                  (refine Draw2.done (by decide +kernel) (hK _ _ ?_); clear hK K)
                  have inq : ∀ j, j < y → ∀ b ∈ [qr j], TBl y ⟨sb, gb, qb, sr, gr, qr, sv', sx'⟩ b := fun j hj b hb => by simp at hb; subst hb; exact .inr (.inr (.inr (.inl ⟨j, hj, .inr (.inr rfl)⟩)))
                  have F20 := H.fr
                  have hT20 := hT.setOld (f := A') (t := x) (v := cnt s A' x) han F20 (by have h9 := H.pick (b := qr A') (by first | exact .head | exact .tail .head | exact .tail (.tail .head) | exact .tail (.tail (.tail .head)) | exact .tail (.tail (.tail (.tail .head))) | exact .tail (.tail (.tail (.tail (.tail .head)))) | exact .tail (.tail (.tail (.tail (.tail (.tail .head)))))); simpa only [Nat.zero_add, Nat.mul_one] using h9)
                  have D20 := D.tb hT hZ' F20 (inq A' han)
                  have hW20 := hW.keep F20 (by simpa using ne_of_ty hW.o hq1 (by decide)) (fun j hj => by simpa using (hrB j A' hj han).2)
                  have k20 := H.pick (b := b13) (by first | exact .head | exact .tail .head | exact .tail (.tail .head) | exact .tail (.tail (.tail .head)) | exact .tail (.tail (.tail (.tail .head))) | exact .tail (.tail (.tail (.tail (.tail .head)))) | exact .tail (.tail (.tail (.tail (.tail (.tail .head))))))
                  clear H F20 hT D hW k19 hq1 hq0 hw1 hw0
                  have hs0 := hT20.s.o
                  have hg0 := hT20.g.o
                  dsimp only at hs0 hg0
                  have c4 : (rowOf y fun i => Value.slice (some ⟨sr i, 0, none⟩) y y)[0 + A' * 1]? = some (.slice (some ⟨sr A', 0, none⟩) y y) := rowOf_at han
                  have c5 : (rowOf y fun i => Value.slice (some ⟨gr i, 0, none⟩) y y)[0 + A' * 1]? = some (.slice (some ⟨gr A', 0, none⟩) y y) := rowOf_at han
                  have c6 : (rowOf y fun i => Value.slice (some ⟨sr i, 0, none⟩) y y)[0 + x * 1]? = some (.slice (some ⟨sr x, 0, none⟩) y y) := rowOf_at hxy
                  have c7 : (rowOf y fun i => Value.slice (some ⟨gr i, 0, none⟩) y y)[0 + x * 1]? = some (.slice (some ⟨gr x, 0, none⟩) y y) := rowOf_at hxy
                  have H := (((Holds.start _ []).add false k20 (by simp) (by simp)).add false hs0 (by simpa using ne_of_ty hs0 k20 (by decide)) (by simp)).add false hg0 (by simpa using ⟨ne_of_ty hg0 hs0 (by decide), ne_of_ty hg0 k20 (by decide)⟩) (by simp)
                  refine Run.seq ?_
                  (refine Run.draw H [31] (0 :: 1 :: 2 :: 3 :: 4 :: 5 :: 6 :: 7 :: 8 :: 9 :: 10 :: 11 :: 12 :: 13 :: 14 :: 15 :: 16 :: 17 :: 18 :: 19 :: 20 :: 21 :: 22 :: 23 :: 24 :: 25 :: 26 :: 27 :: 28 :: 29 :: 30 :: 31 :: []) ?_; clear H; intro K hK w H)
                  refine Draw.take0 rfl (X.move rfl) rfl rfl rfl (by decide +kernel) ?_
                  refine Draw.take0 rfl (X.fieldAddr rfl rfl rfl rfl rfl rfl) rfl rfl rfl (by decide +kernel) ?_
                  refine Draw.take rfl (X.load1 rfl rfl rfl rfl (.tail (.tail .head)) rfl) rfl rfl rfl (by decide +kernel) ?_
                  refine Draw.take0 rfl (X.indexAddr rfl rfl (by omega) rfl rfl rfl rfl) rfl rfl rfl (by decide +kernel) ?_
                  refine Draw.take rfl (X.load1 rfl rfl rfl rfl (.tail .head) (by assumption)) rfl rfl rfl (by decide +kernel) ?_
                  refine Draw.take0 rfl (X.move rfl) rfl rfl rfl (by decide +kernel) ?_
                  refine Draw.take0 rfl (X.move rfl) rfl rfl rfl (by decide +kernel) ?_
                  refine Draw.take0 rfl (X.fieldAddr rfl rfl rfl rfl rfl rfl) rfl rfl rfl (by decide +kernel) ?_
                  refine Draw.take rfl (X.load1 rfl rfl rfl rfl (.tail (.tail .head)) rfl) rfl rfl rfl (by decide +kernel) ?_
                  refine Draw.take0 rfl (X.indexAddr rfl rfl (by omega) rfl rfl rfl rfl) rfl rfl rfl (by decide +kernel) ?_
                  refine Draw.take rfl (X.load1 rfl rfl rfl rfl Pick.head (by assumption)) rfl rfl rfl (by decide +kernel) ?_
                  refine Draw.take0 rfl (X.move rfl) rfl rfl rfl (by decide +kernel) ?_
                  refine Draw.take0 rfl (X.move rfl) rfl rfl rfl (by decide +kernel) ?_
                  refine Draw.take0 rfl (X.move rfl) rfl rfl rfl (by decide +kernel) ?_
                  refine Draw.take0 rfl (X.indexAddr rfl rfl (by omega) rfl rfl rfl rfl) rfl rfl rfl (by decide +kernel) ?_
                  refine Draw.take rfl (X.load1 rfl rfl rfl rfl (.tail .head) (by assumption)) rfl rfl rfl (by decide +kernel) ?_
                  refine Draw.take0 rfl (X.fieldAddr rfl rfl rfl rfl rfl rfl) rfl rfl rfl (by decide +kernel) ?_
                  refine Draw.take rfl (X.load1 rfl rfl rfl rfl (.tail (.tail .head)) rfl) rfl rfl rfl (by decide +kernel) ?_
                  refine Draw.take0 rfl (X.move rfl) rfl rfl rfl (by decide +kernel) ?_
                  refine Draw.take0 rfl (X.move rfl) rfl rfl rfl (by decide +kernel) ?_
                  refine Draw.take0 rfl (X.indexAddr rfl rfl (by omega) rfl rfl rfl rfl) rfl rfl rfl (by decide +kernel) ?_
                  refine Draw.take rfl (X.load1 rfl rfl rfl rfl Pick.head (by assumption)) rfl rfl rfl (by decide +kernel) ?_
                  refine Draw.take0 rfl (X.fieldAddr rfl rfl rfl rfl rfl rfl) rfl rfl rfl (by decide +kernel) ?_
                  refine Draw.take rfl (X.load1 rfl rfl rfl rfl (.tail (.tail .head)) rfl) rfl rfl rfl (by decide +kernel) ?_
                  refine Draw.take0 rfl (X.indexAddr rfl rfl (by omega) rfl rfl rfl rfl) rfl rfl rfl (by decide +kernel) ?_
                  replace hT20 := hT20.ext H.fr
                  replace D20 := D20.ext H.fr
                  replace hW20 := hW20.ext H.fr
                  replace k20 := H.fr.get k20 (by simp)
                  have hZ20 := hZ'
                  clear H
                  have r21 := hT20.s.r A' han
                  dsimp only at r21
                  refine Draw.eff (i := 25) rfl rfl (by decide +kernel) (Y.storeI rfl rfl rfl rfl rfl rfl ((Holds.start _ [sr A']).add true r21 (by simp) (by simp)) .head (by rw [rowOf_len]; omega) ?_)
                  intro w21 H
                  have F21 := H.fr
                  obtain ⟨sv21, sx21, hT21, hB21⟩ := hT20.setNil (f := A') (t := x) han hxy F21 (by have h9 := H.pick (b := sr A') (by first | exact .head | exact .tail .head | exact .tail (.tail .head) | exact .tail (.tail (.tail .head)) | exact .tail (.tail (.tail (.tail .head))) | exact .tail (.tail (.tail (.tail (.tail .head)))) | exact .tail (.tail (.tail (.tail (.tail (.tail .head)))))); simpa only [Nat.zero_add, Nat.mul_one] using h9)
                  have hZ21 : ∀ b, TBl y ⟨sb, gb, qb, sr, gr, qr, sv21, sx21⟩ b → z.heap.size ≤ b := fun b hb => hZ20 b (hB21 b hb)
                  have D21 := D20.tb hT20 hZ20 F21 (fun b hb => by simp at hb; subst hb; exact .inr (.inr (.inr (.inl ⟨A', han, .inl rfl⟩))))
                  have hW21 := hW20.keep F21 (by simpa using ne_of_ty hW20.o r21 (by decide)) (fun j hj => by simpa using ne_of_ty (hW20.r j hj) r21 (by decide))
                  have k21 := F21.get k20 (by simpa using ne_of_ty k20 r21 (by decide))
                  refine ⟨fun e he => by simp only [List.mem_cons, List.not_mem_nil, or_false] at he; rcases he with rfl | rfl | rfl; exact hT21.g.o; exact hT21.s.o; exact k21, ?_⟩
                  clear H F21
                  have H := Holds.start w21 []
                  refine Draw.take0 rfl (X.indexAddr rfl rfl (by omega) rfl rfl rfl rfl) rfl rfl rfl (by decide +kernel) ?_
                  replace k21 := H.fr.get k21 (by simp)
                  replace hT21 := hT21.ext H.fr
                  replace D21 := D21.ext H.fr
                  replace hW21 := hW21.ext H.fr
                  have r22 := hT21.g.r A' han
                  dsimp only at r22
                  refine Draw.eff (i := 27) rfl rfl (by decide +kernel) (Y.storeI rfl rfl rfl rfl rfl rfl ((Holds.start _ [gr A']).add true r22 (by simp) (by simp)) .head (by rw [rowOf_len]; omega) ?_)
                  intro w22 H
                  have F22 := H.fr
                  have hT22 := hT21.setGot (f := A') (t := x) (v := 0) han F22 (by have h9 := H.pick (b := gr A') (by first | exact .head | exact .tail .head | exact .tail (.tail .head) | exact .tail (.tail (.tail .head)) | exact .tail (.tail (.tail (.tail .head))) | exact .tail (.tail (.tail (.tail (.tail .head)))) | exact .tail (.tail (.tail (.tail (.tail (.tail .head)))))); simp only [Nat.zero_add, Nat.mul_one] at h9; exact h9)
                  have hZ22 := hZ21
                  have D22 := D21.tb hT21 hZ21 F22 (fun b hb => by simp at hb; subst hb; exact .inr (.inr (.inr (.inl ⟨A', han, .inr (.inl rfl)⟩))))
                  have hW22 := hW21.keep F22 (by simpa using ne_of_ty hW21.o r22 (by decide)) (fun j hj => by simpa using (hrB j A' hj han).1)
                  have k22 := F22.get k21 (by simpa using ne_of_ty k21 r22 (by decide))
                  refine ⟨fun e he => by simp only [List.mem_cons, List.not_mem_nil, or_false] at he; rcases he with rfl | rfl | rfl; exact hT22.g.o; exact hT22.s.o; exact k22, ?_⟩
                  clear H F22
                  have H := Holds.start w22 []
                  refine Draw.take0 rfl (X.indexAddr rfl rfl (by omega) rfl rfl rfl rfl) rfl rfl rfl (by decide +kernel) ?_
                  replace k22 := H.fr.get k22 (by simp)
                  replace hT22 := hT22.ext H.fr
                  replace D22 := D22.ext H.fr
                  replace hW22 := hW22.ext H.fr
                  have r23 := hT22.s.r x hxy
                  dsimp only at r23
                  refine Draw.eff (i := 29) rfl rfl (by decide +kernel) (Y.storeI rfl rfl rfl rfl rfl rfl ((Holds.start _ [sr x]).add true r23 (by simp) (by simp)) .head (by rw [rowOf_len]; omega) ?_)
                  intro w23 H
                  have F23 := H.fr
                  obtain ⟨sv23, sx23, hT23, hB23⟩ := hT22.setNil (f := x) (t := A') hxy han F23 (by have h9 := H.pick (b := sr x) (by first | exact .head | exact .tail .head | exact .tail (.tail .head) | exact .tail (.tail (.tail .head)) | exact .tail (.tail (.tail (.tail .head))) | exact .tail (.tail (.tail (.tail (.tail .head)))) | exact .tail (.tail (.tail (.tail (.tail (.tail .head)))))); simpa only [Nat.zero_add, Nat.mul_one] using h9)
                  have hZ23 : ∀ b, TBl y ⟨sb, gb, qb, sr, gr, qr, sv23, sx23⟩ b → z.heap.size ≤ b := fun b hb => hZ22 b (hB23 b hb)
                  have D23 := D22.tb hT22 hZ22 F23 (fun b hb => by simp at hb; subst hb; exact .inr (.inr (.inr (.inl ⟨x, hxy, .inl rfl⟩))))
                  have hW23 := hW22.keep F23 (by simpa using ne_of_ty hW22.o r23 (by decide)) (fun j hj => by simpa using ne_of_ty (hW22.r j hj) r23 (by decide))
                  have k23 := F23.get k22 (by simpa using ne_of_ty k22 r23 (by decide))
                  refine ⟨fun e he => by simp only [List.mem_cons, List.not_mem_nil, or_false] at he; rcases he with rfl | rfl | rfl; exact hT23.g.o; exact hT23.s.o; exact k23, ?_⟩
                  clear H F23
                  have H := Holds.start w23 []
                  refine Draw.take0 rfl (X.indexAddr rfl rfl (by omega) rfl rfl rfl rfl) rfl rfl rfl (by decide +kernel) ?_
                  replace k23 := H.fr.get k23 (by simp)
                  replace hT23 := hT23.ext H.fr
                  replace D23 := D23.ext H.fr
                  replace hW23 := hW23.ext H.fr
                  have r24 := hT23.g.r x hxy
                  dsimp only at r24
                  refine Draw.last (i := 31) rfl rfl (by decide +kernel) (Y.storeI rfl rfl rfl rfl rfl rfl ((Holds.start _ [gr x]).add true r24 (by simp) (by simp)) .head (by rw [rowOf_len]; omega) ?_)
                  intro w24 H
                  have F24 := H.fr
                  have hT24 := hT23.setGot (f := x) (t := A') (v := 0) hxy F24 (by have h9 := H.pick (b := gr x) (by first | exact .head | exact .tail .head | exact .tail (.tail .head) | exact .tail (.tail (.tail .head)) | exact .tail (.tail (.tail (.tail .head))) | exact .tail (.tail (.tail (.tail (.tail .head)))) | exact .tail (.tail (.tail (.tail (.tail (.tail .head)))))); simp only [Nat.zero_add, Nat.mul_one] at h9; exact h9)
                  have hZ24 := hZ23
                  have D24 := D23.tb hT23 hZ23 F24 (fun b hb => by simp at hb; subst hb; exact .inr (.inr (.inr (.inl ⟨x, hxy, .inr (.inl rfl)⟩))))
                  have hW24 := hW23.keep F24 (by simpa using ne_of_ty hW23.o r24 (by decide)) (fun j hj => by simpa using (hrB j x hj hxy).1)
                  have k24 := F24.get k23 (by simpa using ne_of_ty k23 r24 (by decide))
                  clear H F24
                  have H := Holds.start w24 []
                  (refine Draw2.done (by decide +kernel) (hK _ _ ?_); clear hK K)
                  have r25 := hT24.q.r x hxy
                  have hq0 := hT24.q.o
                  dsimp only at r25 hq0
                  have c8 : (rowOf y fun i => Value.slice (some ⟨qr i, 0, none⟩) y y)[0 + x * 1]? = some (.slice (some ⟨qr x, 0, none⟩) y y) := rowOf_at hxy
                  have FH := H.fr
                  clear H
                  have H := (((Holds.start _ [qr x]).add false (FH.get k24 (by simp)) (by simp) (by simp)).add false (FH.get hq0 (by simp)) (by simpa using ne_of_ty hq0 k24 (by decide)) (by simp)).add true (FH.get r25 (by simp)) (by simpa using ⟨ne_of_ty r25 hq0 (by decide), ne_of_ty r25 k24 (by decide)⟩) (by simp)
                  (refine Run.draw H [7] [0, 1, 2, 3, 4, 5, 6, 7] ?_; clear H; intro K hK w H)
                  refine Draw.take0 rfl (X.move rfl) rfl rfl rfl (by decide +kernel) ?_
                  refine Draw.take0 rfl (X.move rfl) rfl rfl rfl (by decide +kernel) ?_
                  refine Draw.take0 rfl (X.indexAddr rfl rfl (by omega) rfl rfl rfl rfl) rfl rfl rfl (by decide +kernel) ?_
                  refine Draw.take rfl (X.load1 rfl rfl rfl rfl (.tail .head) (by assumption)) rfl rfl rfl (by decide +kernel) ?_
                  refine Draw.take0 rfl (X.fieldAddr rfl rfl rfl rfl rfl rfl) rfl rfl rfl (by decide +kernel) ?_
                  refine Draw.take rfl (X.load1 rfl rfl rfl rfl (.tail (.tail .head)) rfl) rfl rfl rfl (by decide +kernel) ?_
                  refine Draw.take0 rfl (X.indexAddr rfl rfl (by omega) rfl rfl rfl rfl) rfl rfl rfl (by decide +kernel) ?_
                  refine Draw.last rfl rfl (by decide +kernel) (Y.storeI rfl rfl rfl rfl rfl rfl H .head (by rw [rowOf_len]; omega) ?_)
                  intro w25 H
                  (refine Draw2.done (by decide +kernel) (hK _ _ ?_); clear hK K)
                  refine Run.inBlock ?_
                  (refine Run.region ?_; intro K hK)
                  refine Ops.pure H (X.move rfl) rfl rfl rfl ?_
                  refine Ops.pure H (X.succ rfl rfl (by omega)) rfl rfl rfl ?_
                  refine Ops.pure H (X.assign rfl) rfl rfl rfl ?_
                  (refine Ops.nil (hK _ _ ?_); clear hK K)
                  have hT24' := hT24.ext FH
                  have F25 := H.fr
                  have hT25 := hT24'.setOld (f := x) (t := A') (v := 0) hxy F25 (by have h9 := H.pick (b := qr x) (by first | exact .head | exact .tail .head | exact .tail (.tail .head) | exact .tail (.tail (.tail .head)) | exact .tail (.tail (.tail (.tail .head))) | exact .tail (.tail (.tail (.tail (.tail .head)))) | exact .tail (.tail (.tail (.tail (.tail (.tail .head)))))); simp only [Nat.zero_add, Nat.mul_one] at h9; exact h9)
                  have D25 := (D24.ext FH).tb hT24' hZ24 F25 (fun b hb => by simp at hb; subst hb; exact .inr (.inr (.inr (.inl ⟨x, hxy, .inr (.inr rfl)⟩))))
                  have hW25 := (hW24.ext FH).keep F25 (by simpa using ne_of_ty hW24.o r25 (by decide)) (fun j hj => by simpa using (hrB j x hj hxy).2)
                  refine (IH2 (x + 1) _ (by omega) ⟨by omega, _, sv23, sx23, D25, hT25, hZ24, hW25, H.pick (b := b13) (by first | exact .head | exact .tail .head | exact .tail (.tail .head) | exact .tail (.tail (.tail .head)) | exact .tail (.tail (.tail (.tail .head))) | exact .tail (.tail (.tail (.tail (.tail .head)))) | exact .tail (.tail (.tail (.tail (.tail (.tail .head)))))), fun f t hf ht => ?_⟩).weak (by repeat (first | exact trivial | refine ⟨rfl, ?_⟩))
                  obtain ⟨q1, q2, q3⟩ := hO f t hf ht
                  simp only [upd2]
                  rw [q1, q2, q3]
                  exact ⟨reset_step, reset_step, reset_old fun t => cnt s A' t⟩
                · obtain rfl : x = y := by omega
                  have H := Holds.start w19 []
                  refine Run.seq ?_
                  refine Run.seq ?_
                  (refine Run.region ?_; intro K hK)
                  refine Ops.pure H (X.move rfl) rfl rfl rfl ?_
                  refine Ops.pure H (X.move rfl) rfl rfl rfl ?_
                  refine Ops.pure H (X.cmp rfl rfl rfl) rfl rfl rfl ?_
                  (refine Ops.nil (hK _ _ ?_); clear hK K)
                  refine Run.cond_dec rfl (fun h251 => ?x18) (fun h251 => ?y18)
                  case' y18 =>
                    refine Run.exit rfl ?_
                    refine Run.inBlock ?_
                    refine Run.inBlock ?_
                    (refine Run.region ?_; intro K hK)
                    refine Ops.pure H (X.move rfl) rfl rfl rfl ?_
                    refine Ops.pure H (X.succ rfl rfl (by omega)) rfl rfl rfl ?_
                    refine Ops.pure H (X.assign rfl) rfl rfl rfl ?_
                    (refine Ops.nil (hK _ _ ?_); clear hK K)
                  case' x18 => exfalso; omega
                  have hT20 := hT.congr (o' := o.anew s A') (fun f t hf ht => by
                    obtain ⟨q1, q2, q3⟩ := hO f t hf ht
                    have q4 : cnt s A' t = (filt A' (s.box t)).length := by
                      unfold cnt
                      cases hu : s.up t with
                      | true => rfl
                      | false => rw [hon.down t ht hu]; rfl
                    rw [q1, q2, q3, q4]
                    simp only [OS.anew, hf, ht, and_true])
                  exact (IH (i + 1) _ (by omega) ⟨by omega, g', s2, _, sv', sx', D.ext H.fr, hT20.ext H.fr, hZ', hok2, hinv2, hn2, hon2⟩).weak (by repeat (first | exact trivial | refine ⟨rfl, ?_⟩))
              · have H := Holds.start w18 []
                have hup : s.upS c.a = s := by unfold Ns.upS; rw [if_neg hE]
                rw [hup] at D18
                refine Draw2.take rfl (X.cmp rfl rfl rfl) rfl rfl rfl (by decide +kernel) ?_
                (refine Draw2.done (by decide +kernel) (hK _ _ ?_); clear hK K)
                refine Run.cond_ndec rfl (fun h248 => ?x19) (fun h248 => ?y19)
                case' y19 => exfalso; omega
                case' x19 =>
                  refine Run.exit rfl ?_
                  (refine Run.region ?_; intro K hK)
                  refine Ops.pure H (X.move rfl) rfl rfl rfl ?_
                  refine Ops.pure H (X.succ rfl rfl (by omega)) rfl rfl rfl ?_
                  refine Ops.pure H (X.assign rfl) rfl rfl rfl ?_
                  (refine Ops.nil (hK _ _ ?_); clear hK K)
                exact (IH (i + 1) _ (by omega) ⟨by omega, g', s, o, sv, sx, D18.ext H.fr, hT18.ext H.fr, hZ, hok.mono (Nat.le_succ i), hinv, hsn, hon⟩).weak (by repeat (first | exact trivial | refine ⟨rfl, ?_⟩))
              -- K7>
            · refine (IH (i + 1) _ (by omega) ⟨by omega, g, s, o, sv, sx, D14.ext H.fr, hT14.ext H.fr, hZ, hok.mono (Nat.le_succ i), hinv, hsn, hon⟩).weak (by repeat (first | exact trivial | refine ⟨rfl, ?_⟩))
            · have H14 := H.fr
              refine Ops.eff rfl (Y.call rfl rfl (by first | assumption | decide +kernel) rfl (alone_any _ g ⟨c.kind, c.a, c.to, ci, c.b, false⟩ (.slice ba c.b.length bc) (.pointer none) i rfl (D14.p.ext H.fr) (by rw [D14.ag]; exact hok) (by omega) ⟨rfl, _, _, _, rfl⟩ ⟨_, rfl⟩) rfl ?_)
              rintro v w15 ⟨g', st, hab'⟩
              rw [D14.ag] at hab'
              have hT15 := (hT14.ext H.fr).step st (D14.p.ext H.fr)
              have D15 := (D14.ext H.fr).step st hab'
              clear H
              have H := Holds.start w15 []
              (refine Ops.nil (hK _ _ ?_); clear hK K)
              refine Run.inBlock ?_
              refine Run.inBlock ?_
              (refine Run.region ?_; intro K hK)
              refine Ops.pure H (X.move rfl) rfl rfl rfl ?_
              refine Ops.pure H (X.succ rfl rfl (by omega)) rfl rfl rfl ?_
              refine Ops.pure H (X.assign rfl) rfl rfl rfl ?_
              (refine Ops.nil (hK _ _ ?_); clear hK K)
              exact (IH (i + 1) _ (by omega) ⟨by omega, g', _, o, sv, sx, D15.ext H.fr, hT15.ext H.fr, hZ, hok.alone _, hinv.alone _, (alone_n _ _).trans hsn, hon.alone hinv hsn _⟩).weak (by repeat (first | exact trivial | refine ⟨rfl, ?_⟩))
        · obtain rfl : i = an := by omega
          have H := Holds.start wa []
          refine Run.seq ?_
          refine Run.seq ?_
          (refine Run.region ?_; intro K hK)
          refine Ops.pure H (X.move rfl) rfl rfl rfl ?_
          refine Ops.pure H (X.move rfl) rfl rfl rfl ?_
          refine Ops.pure H (X.len_slice rfl rfl rfl) rfl rfl rfl ?_
          refine Ops.pure H (X.cmp rfl rfl rfl) rfl rfl rfl ?_
          (refine Ops.nil (hK _ _ ?_); clear hK K)
          refine Run.cond_dec rfl (fun h65 => ?x20) (fun h65 => ?y20)
          case' y20 =>
            refine Run.exit rfl ?_
            refine Run.seq ?_
            (refine Run.region ?_; intro K hK)
            refine Ops.pure H (X.assign rfl) rfl rfl rfl ?_
            (refine Ops.nil (hK _ _ ?_); clear hK K)
          case' x20 => exfalso; omega
          (first | refine Fn.ret1 HF rfl rfl ?_ | refine Fn.ret2 HF rfl rfl rfl ?_ | refine Fn.ret3 HF rfl rfl rfl rfl ?_ | refine Fn.ret0 HF rfl ?_ | refine Fn.fin0 HF rfl ?_ | refine Fn.retG (E := env) HF rfl H (by first | exact RVs.cellN rfl rfl rfl (by first | exact .head | exact .tail .head | exact .tail (.tail .head) | exact .tail (.tail (.tail .head)) | exact .tail (.tail (.tail (.tail .head))) | exact .tail (.tail (.tail (.tail (.tail .head)))) | exact .tail (.tail (.tail (.tail (.tail (.tail .head)))))) (by first | assumption | exact Cs.take rfl) RVs.nil | exact RVs.cellN rfl rfl rfl (by first | exact .head | exact .tail .head | exact .tail (.tail .head) | exact .tail (.tail (.tail .head)) | exact .tail (.tail (.tail (.tail .head))) | exact .tail (.tail (.tail (.tail (.tail .head)))) | exact .tail (.tail (.tail (.tail (.tail (.tail .head)))))) (by first | assumption | exact Cs.take rfl) (RVs.tmp rfl RVs.nil) | exact RVs.cellN rfl rfl rfl (by first | exact .head | exact .tail .head | exact .tail (.tail .head) | exact .tail (.tail (.tail .head)) | exact .tail (.tail (.tail (.tail .head))) | exact .tail (.tail (.tail (.tail (.tail .head)))) | exact .tail (.tail (.tail (.tail (.tail (.tail .head)))))) (by first | assumption | exact Cs.take rfl) (RVs.tmp rfl (RVs.tmp rfl RVs.nil))) rfl ?_)
          exact ⟨rfl, D.fr.then H.fr⟩
end Go.Proofs.Ytpmihcefjdeonaa
