/- Walks of layer 20: Put. -/
import Derived.Test.YtaneenahapdabaaP4
namespace Go.Proofs.Ytaneenahapdabaa
open Go
set_option maxRecDepth 20000
set_option maxHeartbeats 2000000
attribute [local irreducible] Run Ops Fn Draw Draw2 PureOp StepZ

theorem MA.put {w : World} {f : Int → Option Value} {ans : Int → Option (List Int)} (h : MA w f ans) {v : Value} {xs : List Int} (x : Int) (hv : Ans w v xs) : MA w (upd f x (some v)) (updA ans x (some xs)) := by
  intro y
  unfold upd updA
  by_cases e : y = x
  · rw [if_pos e, if_pos e]
    exact .inr ⟨v, xs, rfl, rfl, hv⟩
  · rw [if_neg e, if_neg e]
    exact h y
theorem MA.del {w : World} {f : Int → Option Value} {ans : Int → Option (List Int)} (h : MA w f ans) (x : Int) : MA w (upd f x none) (updA ans x none) := by
  intro y
  unfold upd updA
  by_cases e : y = x
  · rw [if_pos e, if_pos e]
    exact .inl ⟨rfl, rfl⟩
  · rw [if_neg e, if_neg e]
    exact h y
/-- Put's answer, and the window behind it. -/
def PutPost (z : World) (W : WS) (id seq : Int) (bs : List Int) (v : Value) (w' : World) : Prop :=
  v = .int .i64 (putE W.N (st W id) seq bs) ∧ Fr z w' (footP W id) ∧ ∃ m', Wn w' { W with m := m', N := putN W.N (st W id) seq bs } ∧ (∀ y, y ≠ id → m' y = W.m y) ∧ (m' id).map (·.s) = putS W.size W.N (st W id) seq bs ∧ ∀ c, m' id = some c → ∀ b ∈ footC c, b ∈ footP W id ∨ z.heap.size ≤ b
theorem put_fail {z w' : World} {W : WS} {id seq e : Int} {bs : List Int} (h : Wn z W) (hf : Fr z w' []) (he : putE W.N (st W id) seq bs = e) (h0 : e ≠ 0) : PutPost z W id seq bs (.int .i64 e) w' := by
  subst he
  refine ⟨rfl, hf.mono (by simp), W.m, ?_, fun _ _ => rfl, ?_, fun c hc b hb => .inl ?_⟩
  · unfold putN
    rw [if_neg (fun hh => h0 hh.1)]
    exact h.ext hf
  · unfold putS
    rw [if_neg h0]
    rfl
  · unfold footP
    rw [hc]
    exact List.mem_cons_of_mem _ hb
theorem put_any (z : World) (W : WS) (id seq : Int) (V : Value) (bs : List Int) (h : Wn z W) (hV : Ans z V bs) (hs1 : 1 ≤ W.size) (hs2 : W.size ≤ 64) (hlen : ∀ c, W.m id = some c → (c.s.seqs.length : Int) ≤ W.size) :
    Fn env.P 7 [.pointer (some ⟨W.wb, 0, none⟩), .int .u64 id, .int .u64 seq, V] z (PutPost z W id seq bs) := by
  have hV' := hV
  obtain ⟨xa, xcap, _, _, _, rfl, _, _, _⟩ := hV
  have hmp := h.mp
  obtain ⟨es, k, f, h2, h3, h4, h5⟩ := hmp
  have h1 := h.at_
  have hne : W.wb ≠ W.mb := fun e => by rw [e, h2] at h1; cases h1
  have hfx := h5 id
  have H := (Holds.start z []).add false h1 (by simp) (by simp)
  have HF := Try.func7; refine Fn.enter Try.func7 Try.ntmps7 rfl rfl rfl ?_
  refine Run.seq ?_
  (refine Run.region ?_; intro K hK)
  refine Ops.pure H (X.assign rfl) rfl rfl rfl ?_
  (refine Ops.nil (hK _ _ ?_); clear hK K)
  refine Run.seq ?_
  refine Run.seq ?_
  (refine Run.region ?_; intro K hK)
  refine Ops.pure H (X.move rfl) rfl rfl rfl ?_
  refine Ops.pure H (X.cmp rfl rfl rfl) rfl rfl rfl ?_
  (refine Ops.nil (hK _ _ ?_); clear hK K)
  refine Run.cond_dec rfl (fun h15 => ?x0) (fun h15 => ?y0)
  case' y0 =>
    refine Run.skip ?_
    refine Run.seq ?_
    refine Run.seq ?_
    (refine Run.region ?_; intro K hK)
    refine Ops.pure H (X.move rfl) rfl rfl rfl ?_
    refine Ops.pure H (X.len_slice rfl rfl rfl) rfl rfl rfl ?_
    refine Ops.pure H (X.cmp rfl rfl rfl) rfl rfl rfl ?_
    (refine Ops.nil (hK _ _ ?_); clear hK K)
    refine Run.cond_dec rfl (fun h18 => ?x1) (fun h18 => ?y1)
    case' y1 =>
      refine Run.skip ?_
      refine Run.seq ?_
      refine Run.seq ?_
      (refine Run.region ?_; intro K hK)
      refine Ops.pure H (X.move rfl) rfl rfl rfl ?_
      refine Ops.pure H (X.move rfl) rfl rfl rfl ?_
      refine Ops.pure H (X.move rfl) rfl rfl rfl ?_
    case' x1 =>
      refine Run.seq ?_
      (refine Run.region ?_; intro K hK)
      refine Ops.pure H (X.assign rfl) rfl rfl rfl ?_
      (refine Ops.nil (hK _ _ ?_); clear hK K)
  case' x0 =>
    refine Run.seq ?_
    (refine Run.region ?_; intro K hK)
    refine Ops.pure H (X.assign rfl) rfl rfl rfl ?_
    (refine Ops.nil (hK _ _ ?_); clear hK K)
  · (first | refine Fn.ret1 HF rfl rfl ?_ | refine Fn.ret2 HF rfl rfl rfl ?_ | refine Fn.ret3 HF rfl rfl rfl rfl ?_ | refine Fn.ret0 HF rfl ?_ | refine Fn.fin0 HF rfl ?_ | refine Fn.retG (E := env) HF rfl H (by first | exact RVs.cellN rfl rfl rfl (by first | exact .head | exact .tail .head | exact .tail (.tail .head) | exact .tail (.tail (.tail .head)) | exact .tail (.tail (.tail (.tail .head))) | exact .tail (.tail (.tail (.tail (.tail .head)))) | exact .tail (.tail (.tail (.tail (.tail (.tail .head)))))) (by first | assumption | exact Cs.take rfl) RVs.nil | exact RVs.cellN rfl rfl rfl (by first | exact .head | exact .tail .head | exact .tail (.tail .head) | exact .tail (.tail (.tail .head)) | exact .tail (.tail (.tail (.tail .head))) | exact .tail (.tail (.tail (.tail (.tail .head)))) | exact .tail (.tail (.tail (.tail (.tail (.tail .head)))))) (by first | assumption | exact Cs.take rfl) (RVs.tmp rfl RVs.nil) | exact RVs.cellN rfl rfl rfl (by first | exact .head | exact .tail .head | exact .tail (.tail .head) | exact .tail (.tail (.tail .head)) | exact .tail (.tail (.tail (.tail .head))) | exact .tail (.tail (.tail (.tail (.tail .head)))) | exact .tail (.tail (.tail (.tail (.tail (.tail .head)))))) (by first | assumption | exact Cs.take rfl) (RVs.tmp rfl (RVs.tmp rfl RVs.nil))) rfl ?_)
    exact put_fail h H.fr (by simp [putE, h15]) (by decide)
  · (first | refine Fn.ret1 HF rfl rfl ?_ | refine Fn.ret2 HF rfl rfl rfl ?_ | refine Fn.ret3 HF rfl rfl rfl rfl ?_ | refine Fn.ret0 HF rfl ?_ | refine Fn.fin0 HF rfl ?_ | refine Fn.retG (E := env) HF rfl H (by first | exact RVs.cellN rfl rfl rfl (by first | exact .head | exact .tail .head | exact .tail (.tail .head) | exact .tail (.tail (.tail .head)) | exact .tail (.tail (.tail (.tail .head))) | exact .tail (.tail (.tail (.tail (.tail .head)))) | exact .tail (.tail (.tail (.tail (.tail (.tail .head)))))) (by first | assumption | exact Cs.take rfl) RVs.nil | exact RVs.cellN rfl rfl rfl (by first | exact .head | exact .tail .head | exact .tail (.tail .head) | exact .tail (.tail (.tail .head)) | exact .tail (.tail (.tail (.tail .head))) | exact .tail (.tail (.tail (.tail (.tail .head)))) | exact .tail (.tail (.tail (.tail (.tail (.tail .head)))))) (by first | assumption | exact Cs.take rfl) (RVs.tmp rfl RVs.nil) | exact RVs.cellN rfl rfl rfl (by first | exact .head | exact .tail .head | exact .tail (.tail .head) | exact .tail (.tail (.tail .head)) | exact .tail (.tail (.tail (.tail .head))) | exact .tail (.tail (.tail (.tail (.tail .head)))) | exact .tail (.tail (.tail (.tail (.tail (.tail .head)))))) (by first | assumption | exact Cs.take rfl) (RVs.tmp rfl (RVs.tmp rfl RVs.nil))) rfl ?_)
    exact put_fail h H.fr (by unfold putE; rw [if_neg h15, if_pos (by omega)]) (by decide)
  refine Ops.eff rfl (Y.call rfl rfl (by first | assumption | decide +kernel) rfl (ask_any _ W id seq (h.ext H.fr)) rfl ?_)
  rintro v w1 ⟨hf1, b, rfl, _⟩
  replace H := H.ext hf1
  refine Ops.pure H (X.move rfl) rfl rfl rfl ?_
  refine Ops.pure H (X.extract rfl rfl) rfl rfl rfl ?_
  refine Ops.pure H (X.extract rfl rfl) rfl rfl rfl ?_
  refine Ops.pure H (X.assign rfl) rfl rfl rfl ?_
  refine Ops.pure H (X.assign rfl) rfl rfl rfl ?_
  (refine Ops.nil (hK _ _ ?_); clear hK K)
  refine Run.seq ?_
  (refine Run.region ?_; intro K hK)
  refine Ops.pure H (X.move rfl) rfl rfl rfl ?_
  refine Ops.pure H (X.cmp rfl rfl rfl) rfl rfl rfl ?_
  (refine Ops.nil (hK _ _ ?_); clear hK K)
  refine Run.cond_ndec rfl (fun h27 => ?x2) (fun h27 => ?y2)
  case' y2 =>
    refine Run.skip ?_
    refine Run.seq ?_
    (refine Run.region ?_; intro K hK)
    refine Ops.pure H (X.move rfl) rfl rfl rfl ?_
    refine Ops.pure H (X.nilCheck rfl) rfl rfl rfl ?_
    refine Ops.pure H (X.fieldAddr rfl rfl rfl rfl rfl rfl) rfl rfl rfl ?_
    refine Ops.pure H (X.load1 rfl rfl rfl rfl Pick.head rfl) rfl rfl rfl ?_
    refine Ops.pure H (X.move rfl) rfl rfl rfl ?_
  case' x2 =>
    refine Run.seq ?_
    (refine Run.region ?_; intro K hK)
    refine Ops.pure H (X.assign rfl) rfl rfl rfl ?_
    (refine Ops.nil (hK _ _ ?_); clear hK K)
  · (first | refine Fn.ret1 HF rfl rfl ?_ | refine Fn.ret2 HF rfl rfl rfl ?_ | refine Fn.ret3 HF rfl rfl rfl rfl ?_ | refine Fn.ret0 HF rfl ?_ | refine Fn.fin0 HF rfl ?_ | refine Fn.retG (E := env) HF rfl H (by first | exact RVs.cellN rfl rfl rfl (by first | exact .head | exact .tail .head | exact .tail (.tail .head) | exact .tail (.tail (.tail .head)) | exact .tail (.tail (.tail (.tail .head))) | exact .tail (.tail (.tail (.tail (.tail .head)))) | exact .tail (.tail (.tail (.tail (.tail (.tail .head)))))) (by first | assumption | exact Cs.take rfl) RVs.nil | exact RVs.cellN rfl rfl rfl (by first | exact .head | exact .tail .head | exact .tail (.tail .head) | exact .tail (.tail (.tail .head)) | exact .tail (.tail (.tail (.tail .head))) | exact .tail (.tail (.tail (.tail (.tail .head)))) | exact .tail (.tail (.tail (.tail (.tail (.tail .head)))))) (by first | assumption | exact Cs.take rfl) (RVs.tmp rfl RVs.nil) | exact RVs.cellN rfl rfl rfl (by first | exact .head | exact .tail .head | exact .tail (.tail .head) | exact .tail (.tail (.tail .head)) | exact .tail (.tail (.tail (.tail .head))) | exact .tail (.tail (.tail (.tail (.tail .head)))) | exact .tail (.tail (.tail (.tail (.tail (.tail .head)))))) (by first | assumption | exact Cs.take rfl) (RVs.tmp rfl (RVs.tmp rfl RVs.nil))) rfl ?_)
    exact put_fail h H.fr (by unfold putE; rw [if_neg h15, if_neg (by omega), if_pos h27]) (by decide)
  have hFr := H.fr
  refine Ops.pure ((Holds.start _ []).add false (hFr.get h2 (by simp)) (by simp) (by simp)) (X.lookup (v := .pointer ((W.m id).map fun c => ⟨c.cb, 0, none⟩)) h3 .head rfl rfl rfl rfl rfl rfl rfl (by rw [hfx]; cases W.m id <;> rfl)) rfl rfl rfl ?_
  refine Ops.pure H (X.assign rfl) rfl rfl rfl ?_
  (refine Ops.nil (hK _ _ ?_); clear hK K)
  have hE : ∀ h0 : ¬ ((st W id).isNone ∧ 1024 ≤ W.N), putE W.N (st W id) seq bs = 0 := fun h0 => by unfold putE; rw [if_neg h15, if_neg (by omega), if_neg (fun h => h h27), if_neg (by simpa using h0)]
  refine Run.seq ?_
  refine Run.meet (fun (c : CL) => [(0, .pointer (some ⟨W.wb, 0, none⟩)), (2, .int .u64 seq), (3, .slice xa bs.length xcap), (11, .pointer (some ⟨c.cb, 0, none⟩))])
    (fun c w' => Wn w' { W with m := updM W.m id c, N := putN W.N (st W id) seq bs } ∧ Fr z w' [W.mb] ∧ c.s = (st W id).getD cs0 ∧ (∀ b ∈ footC c, b ∈ footP W id ∨ z.heap.size ≤ b) ∧ putE W.N (st W id) seq bs = 0) ?_ ?_
  · clear H h2 h3 h4 h5 h1 hne hfx hFr hE
    rintro c w2 ⟨hW2, hZ2, hcs, hcf, hE⟩
    have hmc : updM W.m id c id = some c := updM_self _ _ _
    have hl64 := hW2.len id c hmc
    have hlsz : (c.s.seqs.length : Int) ≤ W.size := by
      rw [hcs]
      unfold st
      cases hm : W.m id with
      | none => simp [cs0]; omega
      | some c' => simpa using hlen c' hm
    obtain ⟨⟨v, a1, a2⟩, ces, ck, cf, a3, a4, a5⟩ := hW2.cl id c hmc
    have a2' := a2
    obtain ⟨sa, scap, soff, scs, rfl, sc1, sc2, sc3⟩ := a2
    have hwb := hW2.at_
    have hf3 : ∀ b, b ∈ footC c → b < w2.heap.size := fun b hb => hW2.lt (.inr (.inr ⟨id, c, hmc, hb⟩))
    have hsbl : c.sb < w2.heap.size := hf3 _ (by simp [footC])
    have hr := hW2.real id c hmc
    have hno5 : ∀ b ∈ footC c, No5 w2 b := fun b hb => hW2.no5 (.inr (.inr ⟨id, c, hmc, hb⟩))
    have hV2 : Ans w2 (.slice xa bs.length xcap) bs := hV'.keep hZ2 (fun b hb => h.no5 (by simp at hb; exact .inr (.inl hb)))
    dsimp only at hwb
    have m1 : ∀ {b b' : Nat} {ds : List Value} {t : Nat} {e : Array MapEntry} {q : Nat}, w2.heap[b]? = some (row ds t) → w2.heap[b']? = some (.map e q) → b ≠ b' := fun h1 h2 e => by rw [e, h2] at h1; cases h1
    have H := (((Holds.start w2 []).add false hwb (by simp) (by simp)).add false a3 (by simpa using (m1 hwb a3).symm) (by simp)).add false a1 (by simpa using ⟨m1 a1 a3, ne_of_ty a1 hwb (by decide)⟩) (by simp)
    refine Run.seq ?_
    (refine Run.region ?_; intro K hK)
    refine Ops.pure H (X.move rfl) rfl rfl rfl ?_
    refine Ops.pure H (X.nilCheck rfl) rfl rfl rfl ?_
    refine Ops.pure H (X.fieldAddr rfl rfl rfl rfl rfl rfl) rfl rfl rfl ?_
    refine Ops.pure H (X.load1 rfl rfl rfl rfl Pick.head rfl) rfl rfl rfl ?_
    refine Ops.pure H (X.move rfl) rfl rfl rfl ?_
    refine Ops.eff rfl (Y.call rfl rfl (by first | assumption | decide +kernel) rfl (search_any _ _ c.sb c.s.seqs seq (a2'.ext H.fr) (by omega)) rfl ?_)
    rintro v w3 ⟨fd, rfl, hf3', hat⟩
    replace H := H.ext hf3'
    refine Ops.pure H (X.move rfl) rfl rfl rfl ?_
    refine Ops.pure H (X.extract rfl rfl) rfl rfl rfl ?_
    refine Ops.pure H (X.extract rfl rfl) rfl rfl rfl ?_
    refine Ops.pure H (X.assign rfl) rfl rfl rfl ?_
    refine Ops.pure H (X.assign rfl) rfl rfl rfl ?_
    (refine Ops.nil (hK _ _ ?_); clear hK K)
    refine Run.seq ?_
    (refine Run.region ?_; intro K hK)
    refine Ops.pure H (X.move rfl) rfl rfl rfl ?_
    refine Ops.pure H (X.move rfl) rfl rfl rfl ?_
    refine Ops.pure H (X.nilCheck rfl) rfl rfl rfl ?_
    refine Ops.pure H (X.fieldAddr rfl rfl rfl rfl rfl rfl) rfl rfl rfl ?_
    refine Ops.pure H (X.load1 rfl rfl rfl rfl Pick.head rfl) rfl rfl rfl ?_
    refine Ops.pure H (X.move rfl) rfl rfl rfl ?_
    refine Ops.pure H (X.move rfl) rfl rfl rfl ?_
    (refine Ops.eff rfl (Y.buildSliceO rfl rfl rfl rfl rfl rfl rfl rfl H ?_); intro b67 w H0 hb67; clear H; have H := H0; clear H0)
    refine Ops.eff rfl (Y.call rfl rfl (by first | assumption | decide +kernel) rfl (insert_any _ _ c.sb c.s.seqs (bsL c.s.seqs seq) seq b67 (a2'.ext H.fr) hat (by omega) (H.pick .head) (by omega)) rfl ?_)
    rintro v w4 ⟨sb2, S, hq2, hsb2, hf4, hS⟩
    have hfw := H.fr
    have hS2 : ∀ b ∈ S, b = c.sb ∧ ∃ ds, w2.heap[b]? = some (row ds 28) := fun b hb => by
      obtain ⟨e, ds, hd⟩ := hS b hb
      exact ⟨e, ds, by rw [← hfw.same b (by rw [e]; exact hsbl) (by simp)]; exact hd⟩
    have hF4 : Fr w2 w4 (footC c) := hfw.trans hf4 (by simp) (fun b hb _ => by rw [(hS b hb).1]; simp [footC])
    have n1 : c.cb ∉ S := fun hm => by obtain ⟨_, ds, hd⟩ := hS2 _ hm; exact ne_of_ty a1 hd (by decide) rfl
    have n2 : c.ab ∉ S := fun hm => by obtain ⟨_, ds, hd⟩ := hS2 _ hm; exact m1 hd a3 rfl
    have n3 : W.wb ∉ S := fun hm => by obtain ⟨_, ds, hd⟩ := hS2 _ hm; exact ne_of_ty hwb hd (by decide) rfl
    have k1 := hf4.get (hfw.get a1 (by simp)) n1
    have k2 := hf4.get (hfw.get a3 (by simp)) n2
    have k3 := hf4.get (hfw.get hwb (by simp)) n3
    have k5 : ∀ b ∈ S, No5 w b := fun b hb => by obtain ⟨_, ds', hd'⟩ := hS b hb; exact No5.row hd' (by decide)
    have ma4 : MA w4 cf c.s.ans := (a5.keep hfw (by simp)).keep hf4 k5
    have hV4 : Ans w4 (.slice xa bs.length xcap) bs := (hV2.keep hfw (by simp)).keep hf4 k5
    have hsb2' : sb2 = c.sb ∨ w2.heap.size ≤ sb2 := hsb2.imp (fun e => e) (Nat.le_trans hfw.size)
    have hQl := insL_len (x := seq) hat
    obtain ⟨Q, hQ⟩ : ∃ Q, Q = insL (bsL c.s.seqs seq) seq c.s.seqs := ⟨_, rfl⟩
    rw [← hQ] at hq2 hQl
    obtain ⟨sa2, scap2, soff2, scs2, rfl, q1, q2, q3⟩ := hq2
    rcases q3 with ⟨_, rfl⟩ | ⟨rfl, q4, q5, q6⟩
    · omega
    have m4 : ∀ {b b' : Nat} {ds : List Value} {t : Nat} {e : Array MapEntry} {q : Nat}, w4.heap[b]? = some (row ds t) → w4.heap[b']? = some (.map e q) → b ≠ b' := fun h1 h2 e => by rw [e, h2] at h1; cases h1
    have fin : ∀ (w' : World) (s2 : CS) (v : Value) (es : Array MapEntry) (q : Nat) (f' : Int → Option Value), Fr w4 w' [c.cb, c.ab] → w'.heap[c.cb]? = some (row [.int .u64 s2.floor, v, .map (some c.ab)] 61) → Sq w' v sb2 s2.seqs → w'.heap[c.ab]? = some (.map es q) → Mp .u64 es f' → MA w' f' s2.ans → s2 = insC W.size c.s seq bs → s2.seqs.length ≤ 64 → PutPost z W id seq bs (.int .i64 0) w' := by
      intro w' s2 v es q f' g1 g2 g3 g4 g5 g6 g7 g8
      have hT : Fr w2 w' (footC c) := hF4.trans g1 (fun _ h => h) (fun x hx _ => by simp at hx; rcases hx with rfl | rfl <;> simp [footC])
      have hr2 : ∃ ds, w'.heap[sb2]? = some (row ds 28) := ⟨_, g1.get q4 (by simp; exact ⟨ne_of_ty q4 k1 (by decide), m4 q4 k2⟩)⟩
      refine ⟨by rw [hE], hZ2.trans hT (by simp [footP]) (fun x hx hlt => (hcf x hx).resolve_right (by omega)), updM (updM W.m id c) id ⟨c.cb, sb2, c.ab, s2⟩, ?_, fun y hy => by rw [updM_ne hy, updM_ne hy], ?_, fun d hd b hb => ?_⟩
      · exact hW2.replace (c2 := ⟨c.cb, sb2, c.ab, s2⟩) hmc hT ⟨⟨v, g2, g3⟩, es, q, f', g4, g5, g6⟩ rfl rfl hsb2' (.inr hr2) g8
      · rw [updM_self]
        unfold putS
        rw [if_pos hE, ← hcs, ← g7]
        rfl
      · rw [updM_self] at hd
        cases hd
        simp [footC] at hb
        rcases hb with rfl | rfl | rfl
        · exact hcf _ (by simp [footC])
        · rcases hsb2' with e | e
          · rw [e]; exact hcf _ (by simp [footC])
          · exact .inr (Nat.le_trans hZ2.size e)
        · exact hcf _ (by simp [footC])
    clear H
    have H := ((((Holds.start w4 [c.cb, c.ab]).add false k3 (by simp) (by simp)).add false q4 (by simpa using ne_of_ty q4 k3 (by decide)) (by simp)).add true k2 (by simpa using ⟨(m4 q4 k2).symm, (m4 k3 k2).symm⟩) (by simp)).add true k1 (by simpa using ⟨m4 k1 k2, ne_of_ty k1 q4 (by decide), ne_of_ty k1 k3 (by decide)⟩) (by simp)
    have k45 : ∀ b ∈ [c.cb, c.ab], No5 w4 b := fun b hb => by
      simp at hb
      rcases hb with rfl | rfl
      · exact No5.row k1 (by decide)
      · exact No5.map k2
    have hqc0 : scs2[soff2 + 0 * 1]? = some (.int .u64 (Q.getD 0 0)) := by
      rw [Nat.mul_one, q6.toGet (by omega)]
      simp [show 0 < Q.length by omega]
    refine Ops.pure H (X.nilCheck rfl) rfl rfl rfl ?_
    refine Ops.pure H (X.fieldAddr rfl rfl rfl rfl rfl rfl) rfl rfl rfl ?_
    (refine Ops.eff rfl (Y.store1 rfl rfl rfl rfl rfl rfl H Upd.head (by repeat (first | exact SetC.zero | apply SetC.succ)) ?_); intro w H0; clear H; have H := H0; clear H0)
    (refine Ops.nil (hK _ _ ?_); clear hK K)
    refine Run.seq ?_
    (refine Run.draw H [7] [0, 1, 2, 3, 4, 5, 6, 7] ?_; clear H; intro K hK w H)
    refine Draw.take0 rfl (X.move rfl) rfl rfl rfl (by decide +kernel) ?_
    refine Draw.take0 rfl (X.nilCheck rfl) rfl rfl rfl (by decide +kernel) ?_
    refine Draw.take0 rfl (X.fieldAddr rfl rfl rfl rfl rfl rfl) rfl rfl rfl (by decide +kernel) ?_
    refine Draw.take rfl (X.load1 rfl rfl rfl rfl Pick.head rfl) rfl rfl rfl (by decide +kernel) ?_
    refine Draw.take0 rfl (X.move rfl) rfl rfl rfl (by decide +kernel) ?_
    refine Draw.take0 rfl (X.move rfl) rfl rfl rfl (by decide +kernel) ?_
    refine Draw.eff rfl rfl (by decide +kernel) (Y.call rfl rfl (by first | assumption | decide +kernel) rfl (bclone_any _ _ bs (hV4.keep H.fr k45).bys (by omega)) rfl ?_)
    rintro v w5 ⟨hA5, hf5⟩
    replace H := H.ext hf5
    refine ⟨H.at_, ?_⟩
    have hF5 := H.fr
    have ma5 : MA w5 cf c.s.ans := ma4.keep hF5 k45
    replace H := H.anew (S' := [c.cb, c.ab]) (G' := [⟨_, _, true⟩, ⟨_, _, true⟩, ⟨_, _, false⟩, ⟨_, _, false⟩]) (by repeat constructor) (by simp)
    have hab5 := H.pick (.tail .head)
    have hcb5 := H.pick .head
    have k55 : ∀ b ∈ [c.cb, c.ab], No5 w5 b := fun b hb => by
      simp at hb
      rcases hb with rfl | rfl
      · exact No5.row hcb5 (by decide)
      · exact No5.map hab5
    skip
    refine Draw.last rfl rfl (by decide +kernel) (Y.mapUpdate (i := seq) a4 H (.tail .head) rfl rfl rfl rfl rfl rfl rfl ?_)
    intro es2 q2' w6 H6 hM6 _ _
    clear H
    have H := H6
    clear H6
    (refine Draw2.done (by decide +kernel) (hK _ _ ?_); clear hK K)
    refine Run.seq ?_
    refine Run.seq ?_
    (refine Run.draw H [] [0, 1, 2, 3, 4, 5, 6, 7, 8, 9] ?_; clear H; intro K hK w H)
    refine Draw.take0 rfl (X.move rfl) rfl rfl rfl (by decide +kernel) ?_
    refine Draw.take0 rfl (X.nilCheck rfl) rfl rfl rfl (by decide +kernel) ?_
    refine Draw.take0 rfl (X.fieldAddr rfl rfl rfl rfl rfl rfl) rfl rfl rfl (by decide +kernel) ?_
    refine Draw.take rfl (X.load1 rfl rfl rfl rfl (.tail .head) rfl) rfl rfl rfl (by decide +kernel) ?_
    refine Draw.take0 rfl (X.len_slice rfl rfl rfl) rfl rfl rfl (by decide +kernel) ?_
    refine Draw.take0 rfl (X.move rfl) rfl rfl rfl (by decide +kernel) ?_
    refine Draw.take0 rfl (X.nilCheck rfl) rfl rfl rfl (by decide +kernel) ?_
    refine Draw.take0 rfl (X.fieldAddr rfl rfl rfl rfl rfl rfl) rfl rfl rfl (by decide +kernel) ?_
    refine Draw.take rfl (X.load1 rfl rfl rfl rfl (.tail (.tail (.tail .head))) rfl) rfl rfl rfl (by decide +kernel) ?_
    refine Draw.take0 rfl (X.cmp rfl rfl rfl) rfl rfl rfl (by decide +kernel) ?_
    (refine Draw.done (by decide +kernel) (hK _ _ ?_); clear hK K)
    refine Run.cond_dec rfl (fun h87 => ?x3) (fun h87 => ?y3)
    case' y3 =>
      refine Run.skip ?_
      refine Run.seq ?_
      (refine Run.region ?_; intro K hK)
      refine Ops.pure H (X.assign rfl) rfl rfl rfl ?_
      (refine Ops.nil (hK _ _ ?_); clear hK K)
    case' x3 =>
      refine Run.seq ?_
      (refine Run.region ?_; intro K hK)
      refine Ops.pure H (X.move rfl) rfl rfl rfl ?_
      refine Ops.pure H (X.move rfl) rfl rfl rfl ?_
      refine Ops.pure H (X.nilCheck rfl) rfl rfl rfl ?_
      refine Ops.pure H (X.fieldAddr rfl rfl rfl rfl rfl rfl) rfl rfl rfl ?_
      refine Ops.pure H (X.load1 rfl rfl rfl rfl (.tail .head) rfl) rfl rfl rfl ?_
      refine Ops.pure H (X.indexAddrK (j := 0) rfl rfl rfl (by omega) rfl rfl rfl rfl) rfl rfl rfl ?_
      refine Ops.pure H (X.load1 rfl rfl rfl rfl (.tail (.tail .head)) (by assumption)) rfl rfl rfl ?_
      refine Ops.pure H (X.nilCheck rfl) rfl rfl rfl ?_
      refine Ops.pure H (X.fieldAddr rfl rfl rfl rfl rfl rfl) rfl rfl rfl ?_
      (refine Ops.eff rfl (Y.store1 rfl rfl rfl rfl rfl rfl H (.tail .head) (by repeat (first | exact SetC.zero | apply SetC.succ)) ?_); intro w H0; clear H; have H := H0; clear H0)
      (refine Ops.nil (hK _ _ ?_); clear hK K)
      refine Run.seq ?_
      (refine Run.draw H [8] [0, 1, 2, 3, 4, 5, 6, 7, 8] ?_; clear H; intro K hK w H)
      refine Draw.take0 rfl (X.move rfl) rfl rfl rfl (by decide +kernel) ?_
      refine Draw.take0 rfl (X.nilCheck rfl) rfl rfl rfl (by decide +kernel) ?_
      refine Draw.take0 rfl (X.fieldAddr rfl rfl rfl rfl rfl rfl) rfl rfl rfl (by decide +kernel) ?_
      refine Draw.take rfl (X.load1 rfl rfl rfl rfl (.tail .head) rfl) rfl rfl rfl (by decide +kernel) ?_
      refine Draw.take0 rfl (X.move rfl) rfl rfl rfl (by decide +kernel) ?_
      refine Draw.take0 rfl (X.nilCheck rfl) rfl rfl rfl (by decide +kernel) ?_
      refine Draw.take0 rfl (X.fieldAddr rfl rfl rfl rfl rfl rfl) rfl rfl rfl (by decide +kernel) ?_
      refine Draw.take rfl (X.load1 rfl rfl rfl rfl (.tail .head) rfl) rfl rfl rfl (by decide +kernel) ?_
    · have hqs : (W.size : Int) < (Q.length : Nat) := h87
      skip
      refine Draw.last rfl rfl (by decide +kernel) (Y.deleteN (i := Q.getD 0 0) hM6 H .head rfl rfl rfl rfl rfl rfl ?_)
      intro es3 w7 H7 hM7
      clear H
      have H := H7
      clear H7
      (refine Draw2.done (by decide +kernel) (hK _ _ ?_); clear hK K)
      (refine Run.region ?_; intro K hK)
      refine Ops.pure H (X.move rfl) rfl rfl rfl ?_
      refine Ops.pure H (X.move rfl) rfl rfl rfl ?_
      refine Ops.pure H (X.nilCheck rfl) rfl rfl rfl ?_
      refine Ops.pure H (X.fieldAddr rfl rfl rfl rfl rfl rfl) rfl rfl rfl ?_
      refine Ops.pure H (X.load1 rfl rfl rfl rfl (.tail .head) rfl) rfl rfl rfl ?_
      refine Ops.pure H (X.slice_l (j := 1) rfl rfl (by omega) rfl rfl rfl rfl) rfl rfl rfl ?_
      refine Ops.pure H (X.nilCheck rfl) rfl rfl rfl ?_
      refine Ops.pure H (X.fieldAddr rfl rfl rfl rfl rfl rfl) rfl rfl rfl ?_
      (refine Ops.eff rfl (Y.store1 rfl rfl rfl rfl rfl rfl H (.tail .head) (by repeat (first | exact SetC.zero | apply SetC.succ)) ?_); intro w H0; clear H; have H := H0; clear H0)
      (refine Ops.nil (hK _ _ ?_); clear hK K)
      refine Run.seq ?_
      (refine Run.region ?_; intro K hK)
      refine Ops.pure H (X.assign rfl) rfl rfl rfl ?_
      (refine Ops.nil (hK _ _ ?_); clear hK K)
      (first | refine Fn.ret1 HF rfl rfl ?_ | refine Fn.ret2 HF rfl rfl rfl ?_ | refine Fn.ret3 HF rfl rfl rfl rfl ?_ | refine Fn.ret0 HF rfl ?_ | refine Fn.fin0 HF rfl ?_ | refine Fn.retG (E := env) HF rfl H (by first | exact RVs.cellN rfl rfl rfl (by first | exact .head | exact .tail .head | exact .tail (.tail .head) | exact .tail (.tail (.tail .head)) | exact .tail (.tail (.tail (.tail .head))) | exact .tail (.tail (.tail (.tail (.tail .head)))) | exact .tail (.tail (.tail (.tail (.tail (.tail .head)))))) (by first | assumption | exact Cs.take rfl) RVs.nil | exact RVs.cellN rfl rfl rfl (by first | exact .head | exact .tail .head | exact .tail (.tail .head) | exact .tail (.tail (.tail .head)) | exact .tail (.tail (.tail (.tail .head))) | exact .tail (.tail (.tail (.tail (.tail .head)))) | exact .tail (.tail (.tail (.tail (.tail (.tail .head)))))) (by first | assumption | exact Cs.take rfl) (RVs.tmp rfl RVs.nil) | exact RVs.cellN rfl rfl rfl (by first | exact .head | exact .tail .head | exact .tail (.tail .head) | exact .tail (.tail (.tail .head)) | exact .tail (.tail (.tail (.tail .head))) | exact .tail (.tail (.tail (.tail (.tail .head)))) | exact .tail (.tail (.tail (.tail (.tail (.tail .head)))))) (by first | assumption | exact Cs.take rfl) (RVs.tmp rfl (RVs.tmp rfl RVs.nil))) rfl ?_)
      have htl : Q.tail.length = Q.length - 1 := by simp
      have hsub := q6.sub 1 (Q.length - 1) (by omega)
      refine fin _ ⟨Q.getD 0 0, Q.tail, updA (updA c.s.ans seq (some bs)) (Q.getD 0 0) none⟩ _ _ _ _ (hF5.trans H.fr (fun _ h => h) (fun _ h _ => h)) (H.pick (by first | exact .head | exact .tail .head | exact .tail (.tail .head) | exact .tail (.tail (.tail .head)) | exact .tail (.tail (.tail (.tail .head))) | exact .tail (.tail (.tail (.tail (.tail .head)))) | exact .tail (.tail (.tail (.tail (.tail (.tail .head))))))) ⟨_, scap2 - 1, _, scs2, by rw [htl], by dsimp only; omega, by omega, .inr ⟨rfl, H.pick (by first | exact .head | exact .tail .head | exact .tail (.tail .head) | exact .tail (.tail (.tail .head)) | exact .tail (.tail (.tail (.tail .head))) | exact .tail (.tail (.tail (.tail (.tail .head)))) | exact .tail (.tail (.tail (.tail (.tail (.tail .head)))))), ?_, ?_⟩⟩ (H.pick (by first | exact .head | exact .tail .head | exact .tail (.tail .head) | exact .tail (.tail (.tail .head)) | exact .tail (.tail (.tail (.tail .head))) | exact .tail (.tail (.tail (.tail (.tail .head)))) | exact .tail (.tail (.tail (.tail (.tail (.tail .head))))))) hM7 (((ma5.keep H.fr k55).put seq (hA5.keep H.fr k55)).del _) ?_ ?_
      · split <;> omega
      · dsimp only
        rw [htl]
        by_cases h1c : scap2 = 1
        · have hQ1 : Q.length = 1 := by omega
          rw [hQ1]
          have : Q.tail = [] := List.eq_nil_of_length_eq_zero (by omega)
          rw [this]
          exact .nil
        · rw [if_neg h1c]
          refine hsub.cast rfl rfl ?_
          rw [List.take_of_length_le (by simp), List.drop_one]
          cases Q <;> rfl
      · unfold insC
        rw [← hQ, if_pos hqs]
      · dsimp only
        omega
    · (first | refine Fn.ret1 HF rfl rfl ?_ | refine Fn.ret2 HF rfl rfl rfl ?_ | refine Fn.ret3 HF rfl rfl rfl rfl ?_ | refine Fn.ret0 HF rfl ?_ | refine Fn.fin0 HF rfl ?_ | refine Fn.retG (E := env) HF rfl H (by first | exact RVs.cellN rfl rfl rfl (by first | exact .head | exact .tail .head | exact .tail (.tail .head) | exact .tail (.tail (.tail .head)) | exact .tail (.tail (.tail (.tail .head))) | exact .tail (.tail (.tail (.tail (.tail .head)))) | exact .tail (.tail (.tail (.tail (.tail (.tail .head)))))) (by first | assumption | exact Cs.take rfl) RVs.nil | exact RVs.cellN rfl rfl rfl (by first | exact .head | exact .tail .head | exact .tail (.tail .head) | exact .tail (.tail (.tail .head)) | exact .tail (.tail (.tail (.tail .head))) | exact .tail (.tail (.tail (.tail (.tail .head)))) | exact .tail (.tail (.tail (.tail (.tail (.tail .head)))))) (by first | assumption | exact Cs.take rfl) (RVs.tmp rfl RVs.nil) | exact RVs.cellN rfl rfl rfl (by first | exact .head | exact .tail .head | exact .tail (.tail .head) | exact .tail (.tail (.tail .head)) | exact .tail (.tail (.tail (.tail .head))) | exact .tail (.tail (.tail (.tail (.tail .head)))) | exact .tail (.tail (.tail (.tail (.tail (.tail .head)))))) (by first | assumption | exact Cs.take rfl) (RVs.tmp rfl (RVs.tmp rfl RVs.nil))) rfl ?_)
      have hqs : ¬ W.size < (Q.length : Nat) := h87
      refine fin _ ⟨c.s.floor, Q, updA c.s.ans seq (some bs)⟩ _ _ _ _ (hF5.trans H.fr (fun _ h => h) (fun _ h _ => h)) (H.pick (by first | exact .head | exact .tail .head | exact .tail (.tail .head) | exact .tail (.tail (.tail .head)) | exact .tail (.tail (.tail (.tail .head))) | exact .tail (.tail (.tail (.tail (.tail .head)))) | exact .tail (.tail (.tail (.tail (.tail (.tail .head))))))) ⟨_, scap2, soff2, scs2, rfl, q1, q2, .inr ⟨rfl, H.pick (by first | exact .head | exact .tail .head | exact .tail (.tail .head) | exact .tail (.tail (.tail .head)) | exact .tail (.tail (.tail (.tail .head))) | exact .tail (.tail (.tail (.tail (.tail .head)))) | exact .tail (.tail (.tail (.tail (.tail (.tail .head)))))), q5, q6⟩⟩ (H.pick (by first | exact .head | exact .tail .head | exact .tail (.tail .head) | exact .tail (.tail (.tail .head)) | exact .tail (.tail (.tail (.tail .head))) | exact .tail (.tail (.tail (.tail (.tail .head)))) | exact .tail (.tail (.tail (.tail (.tail (.tail .head))))))) hM6 ((ma5.keep H.fr k55).put seq (hA5.keep H.fr k55)) ?_ ?_
      · unfold insC
        rw [← hQ, if_neg hqs]
      · dsimp only
        omega
  · intro kk go
    cases hm : W.m id with
    | some c =>
      have hs : st W id = some c.s := by simp [st, hm]
      simp only [Option.map_some]
      refine Run.seq ?_
      (refine Run.region ?_; intro K hK)
      refine Ops.pure H (X.move rfl) rfl rfl rfl ?_
      refine Ops.pure H (X.ptrNil rfl rfl rfl rfl rfl) rfl rfl rfl ?_
      (refine Ops.nil (hK _ _ ?_); clear hK K)
      refine Run.cond_false rfl ?_
      refine Run.skip ?_
      have he := hE (by simp [hs])
      refine go c _ _ ⟨?_, hFr.mono (by simp), by rw [hs]; rfl, fun b hb => .inl (by unfold footP; rw [hm]; exact List.mem_cons_of_mem _ hb), he⟩ (by repeat (first | exact trivial | refine ⟨rfl, ?_⟩))
      have e1 : updM W.m id c = W.m := by
        funext x
        unfold updM
        split
        · subst x; exact hm.symm
        · rfl
      have e2 : putN W.N (st W id) seq bs = W.N := by unfold putN; rw [if_neg (by simp [hs])]
      rw [e1, e2]
      exact h.ext hFr
    | none =>
      have hs : st W id = none := by simp [st, hm]
      simp only [Option.map_none]
      have h2w := hFr.get h2 (by simp)
      have H := ((Holds.start _ [W.mb]).add true h2w (by simp) (by simp)).add false (hFr.get h1 (by simp)) (by simpa using hne) (by simp)
      refine Run.seq ?_
      (refine Run.region ?_; intro K hK)
      refine Ops.pure H (X.move rfl) rfl rfl rfl ?_
      refine Ops.pure H (X.ptrNil rfl rfl rfl rfl rfl) rfl rfl rfl ?_
      (refine Ops.nil (hK _ _ ?_); clear hK K)
      refine Run.cond_true rfl ?_
      refine Run.seq ?_
      refine Run.seq ?_
      (refine Run.region ?_; intro K hK)
      refine Ops.pure H (X.move rfl) rfl rfl rfl ?_
      refine Ops.pure H (X.nilCheck rfl) rfl rfl rfl ?_
      refine Ops.pure H (X.fieldAddr rfl rfl rfl rfl rfl rfl) rfl rfl rfl ?_
      refine Ops.pure H (X.load1 rfl rfl rfl rfl Pick.head rfl) rfl rfl rfl ?_
      refine Ops.pure H (X.len_map rfl rfl rfl (.tail .head)) rfl rfl rfl ?_
      refine Ops.pure H (X.cmp rfl rfl rfl) rfl rfl rfl ?_
      (refine Ops.nil (hK _ _ ?_); clear hK K)
      refine Run.cond_dec rfl (fun h41 => ?x4) (fun h41 => ?y4)
      case' y4 =>
        refine Run.skip ?_
        refine Run.seq ?_
        (refine Run.region ?_; intro K hK)
        (refine Ops.eff rfl (Y.makeMap rfl H ?_); intro b42 w H0 hb42; clear H; have H := H0; clear H0)
        refine Ops.pure H (X.buildO rfl rfl rfl rfl rfl rfl) rfl rfl rfl ?_
        (refine Ops.eff rfl (Y.box rfl rfl rfl H ?_); intro b44 w H0 hb44; clear H; have H := H0; clear H0)
        refine Ops.pure H (X.assign rfl) rfl rfl rfl ?_
        (refine Ops.nil (hK _ _ ?_); clear hK K)
        (refine Run.region ?_; intro K hK)
        refine Ops.pure H (X.move rfl) rfl rfl rfl ?_
        refine Ops.pure H (X.nilCheck rfl) rfl rfl rfl ?_
        refine Ops.pure H (X.fieldAddr rfl rfl rfl rfl rfl rfl) rfl rfl rfl ?_
        refine Ops.pure H (X.load1 rfl rfl rfl rfl (.tail (.tail .head)) rfl) rfl rfl rfl ?_
        refine Ops.pure H (X.move rfl) rfl rfl rfl ?_
        refine Ops.pure H (X.move rfl) rfl rfl rfl ?_
      case' x4 =>
        refine Run.seq ?_
        (refine Run.region ?_; intro K hK)
        refine Ops.pure H (X.assign rfl) rfl rfl rfl ?_
        (refine Ops.nil (hK _ _ ?_); clear hK K)
      · rename_i h41
        (first | refine Fn.ret1 HF rfl rfl ?_ | refine Fn.ret2 HF rfl rfl rfl ?_ | refine Fn.ret3 HF rfl rfl rfl rfl ?_ | refine Fn.ret0 HF rfl ?_ | refine Fn.fin0 HF rfl ?_ | refine Fn.retG (E := env) HF rfl H (by first | exact RVs.cellN rfl rfl rfl (by first | exact .head | exact .tail .head | exact .tail (.tail .head) | exact .tail (.tail (.tail .head)) | exact .tail (.tail (.tail (.tail .head))) | exact .tail (.tail (.tail (.tail (.tail .head)))) | exact .tail (.tail (.tail (.tail (.tail (.tail .head)))))) (by first | assumption | exact Cs.take rfl) RVs.nil | exact RVs.cellN rfl rfl rfl (by first | exact .head | exact .tail .head | exact .tail (.tail .head) | exact .tail (.tail (.tail .head)) | exact .tail (.tail (.tail (.tail .head))) | exact .tail (.tail (.tail (.tail (.tail .head)))) | exact .tail (.tail (.tail (.tail (.tail (.tail .head)))))) (by first | assumption | exact Cs.take rfl) (RVs.tmp rfl RVs.nil) | exact RVs.cellN rfl rfl rfl (by first | exact .head | exact .tail .head | exact .tail (.tail .head) | exact .tail (.tail (.tail .head)) | exact .tail (.tail (.tail (.tail .head))) | exact .tail (.tail (.tail (.tail (.tail .head)))) | exact .tail (.tail (.tail (.tail (.tail (.tail .head)))))) (by first | assumption | exact Cs.take rfl) (RVs.tmp rfl (RVs.tmp rfl RVs.nil))) rfl ?_)
        have he : putE W.N (st W id) seq bs = 200 := by unfold putE; rw [if_neg h15, if_neg (by omega), if_neg (fun h => h h27), if_pos ⟨by rw [hs]; rfl, by omega⟩]
        exact put_fail h hFr he (by decide)
      · refine Ops.eff rfl (Y.mapUpdate (i := id) h3 H (.tail (.tail (.tail .head))) rfl rfl rfl rfl rfl rfl rfl ?_)
        intro es' k' w H hM' hsz' hst'
        (refine Ops.nil (hK _ _ ?_); clear hK K)
        have he := hE (by rintro ⟨_, h0⟩; omega)
        have e2 : putN W.N (st W id) seq bs = W.N + 1 := by unfold putN; rw [if_pos ⟨he, by rw [hs]; rfl⟩]
        have hfxn : f id = none := by rw [hfx, hm]; rfl
        rw [hfxn] at hsz'
        have hF2 : Fr z w [W.mb] := hFr.trans H.fr (by simp) (by simp)
        refine go ⟨b44, b44, b42, cs0⟩ _ _ ⟨?_, hF2, by rw [hs]; rfl, fun b hb => .inr ?_, he⟩ (by repeat (first | exact trivial | refine ⟨rfl, ?_⟩))
        · rw [e2]
          exact Wn.more (c2 := ⟨b44, b44, b42, cs0⟩) h hm hF2 ⟨⟨_, H.pick (by first | exact .head | exact .tail .head | exact .tail (.tail .head) | exact .tail (.tail (.tail .head)) | exact .tail (.tail (.tail (.tail .head))) | exact .tail (.tail (.tail (.tail (.tail .head)))) | exact .tail (.tail (.tail (.tail (.tail (.tail .head)))))), none, 0, 0, [], rfl, by simp [cs0], by omega, .inl ⟨rfl, rfl⟩⟩, _, _, _, H.pick (by first | exact .head | exact .tail .head | exact .tail (.tail .head) | exact .tail (.tail (.tail .head)) | exact .tail (.tail (.tail (.tail .head))) | exact .tail (.tail (.tail (.tail (.tail .head)))) | exact .tail (.tail (.tail (.tail (.tail (.tail .head)))))), Mp.empty, fun x => .inl ⟨rfl, rfl⟩⟩ (Nat.le_trans hFr.size hb44) rfl (Nat.le_trans hFr.size hb42) (by simp [cs0]) (H.pick (by first | exact .head | exact .tail .head | exact .tail (.tail .head) | exact .tail (.tail (.tail .head)) | exact .tail (.tail (.tail (.tail .head))) | exact .tail (.tail (.tail (.tail (.tail .head)))) | exact .tail (.tail (.tail (.tail (.tail (.tail .head))))))) hM' (by simpa [h4] using hsz') (hst' (h.stp _ _ h2)) h5 rfl
        · have := hFr.size
          simp [footC] at hb
          omega
end Go.Proofs.Ytaneenahapdabaa
