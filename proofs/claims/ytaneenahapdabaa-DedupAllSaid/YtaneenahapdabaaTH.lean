/- Layer 20: Put on both. -/
import Derived.Test.YtaneenahapdabaaTF
namespace Go.Proofs.Ytaneenahapdabaa
open Go
set_option maxRecDepth 20000
set_option maxHeartbeats 2000000
attribute [local irreducible] Run Ops Fn Draw Draw2 PureOp StepZ

def PutPV (Pv : Value → Prop) (z : World) (W : WS) (id seq : Int) (bs : List Int) (v : Value) (w' : World) : Prop :=
  v = .int .i64 (putE W.N (st W id) seq bs) ∧ Fr z w' (footP W id) ∧ ∃ m', Wn w' { W with m := m', N := putN W.N (st W id) seq bs } ∧ (∀ y, y ≠ id → m' y = W.m y) ∧ (m' id).map (·.s) = putS W.size W.N (st W id) seq bs ∧ (∀ c, m' id = some c → ∀ b ∈ footC c, b ∈ footP W id ∨ z.heap.size ≤ b) ∧ ∀ c, m' id = some c → ∀ es k f, w'.heap[c.ab]? = some (.map es k) → Mp .u64 es f → ∀ y v, f y = some v → Pv v
theorem put_failV {Pv : Value → Prop} {z w' : World} {W : WS} {id seq e : Int} {bs : List Int} (hPo : ∀ c, W.m id = some c → ∀ es k f, z.heap[c.ab]? = some (.map es k) → Mp .u64 es f → ∀ y v, f y = some v → Pv v) (h : Wn z W) (hf : Fr z w' []) (he : putE W.N (st W id) seq bs = e) (h0 : e ≠ 0) : PutPV Pv z W id seq bs (.int .i64 e) w' := by
  subst he
  refine ⟨rfl, hf.mono (by simp), W.m, ?_, fun _ _ => rfl, ?_, fun c hc b hb => .inl ?_, fun c hc es k f hm hM => ?_⟩
  · unfold putN
    rw [if_neg (fun hh => h0 hh.1)]
    exact h.ext hf
  · unfold putS
    rw [if_neg h0]
    rfl
  · unfold footP
    rw [hc]
    exact List.mem_cons_of_mem _ hb
  · obtain ⟨_, ces, ck, cf, b3, b4, _⟩ := h.cl id c hc
    rw [hf.get b3 (by simp)] at hm
    cases hm
    exact hPo c hc _ _ f b3 hM
theorem put_pv (z : World) (W : WS) (id seq : Int) (V : Value) (bs : List Int) (Pv : Value → Prop) (hPo : ∀ c, W.m id = some c → ∀ es k f, z.heap[c.ab]? = some (.map es k) → Mp .u64 es f → ∀ y v, f y = some v → Pv v) (hPn : ∀ (v : Value) (w : World), Fresh5 w z.heap.size v bs → Pv v) (h : Wn z W) (hV : Ans z V bs) (hs1 : 1 ≤ W.size) (hs2 : W.size ≤ 64) (hlen : ∀ c, W.m id = some c → (c.s.seqs.length : Int) ≤ W.size) :
    Fn env.P 7 [.pointer (some ⟨W.wb, 0, none⟩), .int .u64 id, .int .u64 seq, V] z (PutPV Pv z W id seq bs) := by
  have hV' := hV
  obtain ⟨xa, xcap, _, _, _, rfl, _, _, _⟩ := hV
  have hmp := h.mp
  obtain ⟨es, k, f, h2, h3, h4, h5⟩ := hmp
  have h1 := h.at_
  have hne : W.wb ≠ W.mb := fun e => by rw [e, h2] at h1; cases h1
  have hfx := h5 id
  have H := (Holds.start z []).add false h1 (by simp) (by simp)
  have HF := Try.func7; refine Fn.enter Try.func7 Try.ntmps7 rfl rfl rfl ?_
  (refine Run.seq (Run.region ?_); intro K hK)
  refine Ops.pure H (X.assign rfl) rfl rfl rfl ?_
  (refine Ops.nil (hK _ _ ?_); clear hK K)
  refine Run.seq ?_
  (refine Run.seq (Run.region ?_); intro K hK)
  refine Ops.pure H (X.move rfl) rfl rfl rfl ?_
  refine Ops.pure H (X.cmp rfl rfl rfl) rfl rfl rfl ?_
  (refine Ops.nil (hK _ _ ?_); clear hK K)
  refine Run.cond_dec rfl (fun h15 => ?x0) (fun h15 => ?y0)
  case' y0 =>
    refine Run.skip ?_
    refine Run.seq ?_
    (refine Run.seq (Run.region ?_); intro K hK)
    refine Ops.pure H (X.move rfl) rfl rfl rfl ?_
    refine Ops.pure H (X.len_slice rfl rfl rfl) rfl rfl rfl ?_
    refine Ops.pure H (X.cmp rfl rfl rfl) rfl rfl rfl ?_
    (refine Ops.nil (hK _ _ ?_); clear hK K)
    refine Run.cond_dec rfl (fun h18 => ?x1) (fun h18 => ?y1)
    case' y1 =>
      refine Run.skip ?_
      refine Run.seq ?_
      (refine Run.seq (Run.region ?_); intro K hK)
      refine Ops.pure H (X.move rfl) rfl rfl rfl ?_
      refine Ops.pure H (X.move rfl) rfl rfl rfl ?_
      refine Ops.pure H (X.move rfl) rfl rfl rfl ?_
    case' x1 =>
      (refine Run.seq (Run.region ?_); intro K hK)
      refine Ops.pure H (X.assign rfl) rfl rfl rfl ?_
      (refine Ops.nil (hK _ _ ?_); clear hK K)
  case' x0 =>
    (refine Run.seq (Run.region ?_); intro K hK)
    refine Ops.pure H (X.assign rfl) rfl rfl rfl ?_
    (refine Ops.nil (hK _ _ ?_); clear hK K)
  · refine Fn.ret1 HF rfl rfl ?_
    exact put_failV hPo h H.fr (by simp [putE, h15]) (by decide)
  · refine Fn.ret1 HF rfl rfl ?_
    exact put_failV hPo h H.fr (by unfold putE; rw [if_neg h15, if_pos (by omega)]) (by decide)
  refine Ops.eff rfl (Y.call rfl rfl (by first | assumption | decide +kernel) rfl (ask_any _ W id seq (h.ext H.fr)) rfl ?_)
  rintro v w1 ⟨hf1, b, rfl, _⟩
  replace H := H.ext hf1
  refine Ops.pure H (X.move rfl) rfl rfl rfl ?_
  refine Ops.pure H (X.extract rfl rfl) rfl rfl rfl ?_
  refine Ops.pure H (X.extract rfl rfl) rfl rfl rfl ?_
  refine Ops.pure H (X.assign rfl) rfl rfl rfl ?_
  refine Ops.pure H (X.assign rfl) rfl rfl rfl ?_
  (refine Ops.nil (hK _ _ (Run.seq (Run.region ?_))); clear hK K; intro K hK)
  refine Ops.pure H (X.move rfl) rfl rfl rfl ?_
  refine Ops.pure H (X.cmp rfl rfl rfl) rfl rfl rfl ?_
  (refine Ops.nil (hK _ _ ?_); clear hK K)
  refine Run.cond_ndec rfl (fun h27 => ?x2) (fun h27 => ?y2)
  case' y2 =>
    refine Run.skip ?_
    (refine Run.seq (Run.region ?_); intro K hK)
    refine Ops.pure H (X.move rfl) rfl rfl rfl ?_
    refine Ops.pure H (X.nilCheck rfl) rfl rfl rfl ?_
    refine Ops.pure H (X.fieldAddr rfl rfl rfl rfl rfl rfl) rfl rfl rfl ?_
    refine Ops.pure H (X.load1 rfl rfl rfl rfl Pick.head rfl) rfl rfl rfl ?_
    refine Ops.pure H (X.move rfl) rfl rfl rfl ?_
  case' x2 =>
    (refine Run.seq (Run.region ?_); intro K hK)
    refine Ops.pure H (X.assign rfl) rfl rfl rfl ?_
    (refine Ops.nil (hK _ _ ?_); clear hK K)
  · refine Fn.ret1 HF rfl rfl ?_
    exact put_failV hPo h H.fr (by unfold putE; rw [if_neg h15, if_neg (by omega), if_pos h27]) (by decide)
  have hFr := H.fr
  refine Ops.pure ((Holds.start _ []).add false (hFr.get h2 (by simp)) (by simp) (by simp)) (X.lookup (v := .pointer ((W.m id).map fun c => ⟨c.cb, 0, none⟩)) h3 .head rfl rfl rfl rfl rfl rfl rfl (by rw [hfx]; cases W.m id <;> rfl)) rfl rfl rfl ?_
  refine Ops.pure H (X.assign rfl) rfl rfl rfl ?_
  (refine Ops.nil (hK _ _ ?_); clear hK K)
  have hE : ∀ h0 : ¬ ((st W id).isNone ∧ 1024 ≤ W.N), putE W.N (st W id) seq bs = 0 := fun h0 => by unfold putE; rw [if_neg h15, if_neg (by omega), if_neg (fun h => h h27), if_neg (by simpa using h0)]
  refine Run.seq ?_
  refine Run.meet (fun (c : CL) => [(0, .pointer (some ⟨W.wb, 0, none⟩)), (2, .int .u64 seq), (3, .slice xa bs.length xcap), (11, .pointer (some ⟨c.cb, 0, none⟩))])
    (fun c w' => Wn w' { W with m := updM W.m id c, N := putN W.N (st W id) seq bs } ∧ Fr z w' [W.mb] ∧ c.s = (st W id).getD cs0 ∧ (∀ b ∈ footC c, b ∈ footP W id ∨ z.heap.size ≤ b) ∧ putE W.N (st W id) seq bs = 0 ∧ ∀ es k f, w'.heap[c.ab]? = some (.map es k) → Mp .u64 es f → ∀ y v, f y = some v → Pv v) ?_ ?_
  · clear H h2 h3 h4 h5 h1 hne hfx hFr hE
    rintro c w2 ⟨hW2, hZ2, hcs, hcf, hE, hPc⟩
    have hmc : updM W.m id c id = some c := updM_self _ _ _
    have hl64 := hW2.len id c hmc
    have hlsz : (c.s.seqs.length : Int) ≤ W.size := by
      rw [hcs]
      unfold st
      cases hm : W.m id with
      | none => simp [cs0]; omega
      | some c' => simpa using hlen c' hm
    obtain ⟨⟨v, a1, a2⟩, ces, ck, cf, a3, a4, a5⟩ := hW2.cl id c hmc
    have a2' := a2
    obtain ⟨sa, scap, soff, scs, rfl, sc1, sc2, sc3⟩ := a2
    have hwb := hW2.at_
    have hf3 : ∀ b, b ∈ footC c → b < w2.heap.size := fun b hb => hW2.lt (.inr (.inr ⟨id, c, hmc, hb⟩))
    have hsbl : c.sb < w2.heap.size := hf3 _ (by simp [footC])
    have hr := hW2.real id c hmc
    have hno5 : ∀ b ∈ footC c, No5 w2 b := fun b hb => hW2.no5 (.inr (.inr ⟨id, c, hmc, hb⟩))
    have hV2 : Ans w2 (.slice xa bs.length xcap) bs := hV'.keep hZ2 (fun b hb => h.no5 (by simp at hb; exact .inr (.inl hb)))
    dsimp only at hwb
    have m1 : ∀ {b b' : Nat} {ds : List Value} {t : Nat} {e : Array MapEntry} {q : Nat}, w2.heap[b]? = some (row ds t) → w2.heap[b']? = some (.map e q) → b ≠ b' := fun h1 h2 e => by rw [e, h2] at h1; cases h1
    have H := (((Holds.start w2 []).add false hwb (by simp) (by simp)).add false a3 (by simpa using (m1 hwb a3).symm) (by simp)).add false a1 (by simpa using ⟨m1 a1 a3, ne_of_ty a1 hwb (by decide)⟩) (by simp)
    (refine Run.seq (Run.region ?_); intro K hK)
    refine Ops.pure H (X.move rfl) rfl rfl rfl ?_
    refine Ops.pure H (X.nilCheck rfl) rfl rfl rfl ?_
    refine Ops.pure H (X.fieldAddr rfl rfl rfl rfl rfl rfl) rfl rfl rfl ?_
    refine Ops.pure H (X.load1 rfl rfl rfl rfl Pick.head rfl) rfl rfl rfl ?_
    refine Ops.pure H (X.move rfl) rfl rfl rfl ?_
    refine Ops.eff rfl (Y.call rfl rfl (by first | assumption | decide +kernel) rfl (search_any _ _ c.sb c.s.seqs seq (a2'.ext H.fr) (by omega)) rfl ?_)
    rintro v w3 ⟨fd, rfl, hf3', hat⟩
    replace H := H.ext hf3'
    refine Ops.pure H (X.move rfl) rfl rfl rfl ?_
    refine Ops.pure H (X.extract rfl rfl) rfl rfl rfl ?_
    refine Ops.pure H (X.extract rfl rfl) rfl rfl rfl ?_
    refine Ops.pure H (X.assign rfl) rfl rfl rfl ?_
    refine Ops.pure H (X.assign rfl) rfl rfl rfl ?_
    (refine Ops.nil (hK _ _ (Run.seq (Run.region ?_))); clear hK K; intro K hK)
    refine Ops.pure H (X.move rfl) rfl rfl rfl ?_
    refine Ops.pure H (X.move rfl) rfl rfl rfl ?_
    refine Ops.pure H (X.nilCheck rfl) rfl rfl rfl ?_
    refine Ops.pure H (X.fieldAddr rfl rfl rfl rfl rfl rfl) rfl rfl rfl ?_
    refine Ops.pure H (X.load1 rfl rfl rfl rfl Pick.head rfl) rfl rfl rfl ?_
    refine Ops.pure H (X.move rfl) rfl rfl rfl ?_
    refine Ops.pure H (X.move rfl) rfl rfl rfl ?_
    (refine Ops.eff rfl (Y.buildSliceO rfl rfl rfl rfl rfl rfl rfl rfl H ?_); intro b67 w H0 hb67; clear H; have H := H0; clear H0)
    refine Ops.eff rfl (Y.call rfl rfl (by first | assumption | decide +kernel) rfl (insert_any _ _ c.sb c.s.seqs (bsL c.s.seqs seq) seq b67 (a2'.ext H.fr) hat (by omega) (H.pick .head) (by omega)) rfl ?_)
    rintro v w4 ⟨sb2, S, hq2, hsb2, hf4, hS⟩
    have hfw := H.fr
    have hS2 : ∀ b ∈ S, b = c.sb ∧ ∃ ds, w2.heap[b]? = some (row ds 28) := fun b hb => by
      obtain ⟨e, ds, hd⟩ := hS b hb
      exact ⟨e, ds, by rw [← hfw.same b (by rw [e]; exact hsbl) (by simp)]; exact hd⟩
    have hF4 : Fr w2 w4 (footC c) := hfw.trans hf4 (by simp) (fun b hb _ => by rw [(hS b hb).1]; simp [footC])
    have n1 : c.cb ∉ S := fun hm => by obtain ⟨_, ds, hd⟩ := hS2 _ hm; exact ne_of_ty a1 hd (by decide) rfl
    have n2 : c.ab ∉ S := fun hm => by obtain ⟨_, ds, hd⟩ := hS2 _ hm; exact m1 hd a3 rfl
    have n3 : W.wb ∉ S := fun hm => by obtain ⟨_, ds, hd⟩ := hS2 _ hm; exact ne_of_ty hwb hd (by decide) rfl
    have k1 := hf4.get (hfw.get a1 (by simp)) n1
    have k2 := hf4.get (hfw.get a3 (by simp)) n2
    have k3 := hf4.get (hfw.get hwb (by simp)) n3
    have k5 : ∀ b ∈ S, No5 w b := fun b hb => by obtain ⟨_, ds', hd'⟩ := hS b hb; exact No5.row hd' (by decide)
    have ma4 : MA w4 cf c.s.ans := (a5.keep hfw (by simp)).keep hf4 k5
    have hV4 : Ans w4 (.slice xa bs.length xcap) bs := (hV2.keep hfw (by simp)).keep hf4 k5
    have hsb2' : sb2 = c.sb ∨ w2.heap.size ≤ sb2 := hsb2.imp (fun e => e) (Nat.le_trans hfw.size)
    have hQl := insL_len (x := seq) hat
    obtain ⟨Q, hQ⟩ : ∃ Q, Q = insL (bsL c.s.seqs seq) seq c.s.seqs := ⟨_, rfl⟩
    rw [← hQ] at hq2 hQl
    obtain ⟨sa2, scap2, soff2, scs2, rfl, q1, q2, q3⟩ := hq2
    rcases q3 with ⟨_, rfl⟩ | ⟨rfl, q4, q5, q6⟩
    · omega
    have m4 : ∀ {b b' : Nat} {ds : List Value} {t : Nat} {e : Array MapEntry} {q : Nat}, w4.heap[b]? = some (row ds t) → w4.heap[b']? = some (.map e q) → b ≠ b' := fun h1 h2 e => by rw [e, h2] at h1; cases h1
    have fin : ∀ (w' : World) (s2 : CS) (v : Value) (es : Array MapEntry) (q : Nat) (f' : Int → Option Value), Fr w4 w' [c.cb, c.ab] → w'.heap[c.cb]? = some (row [.int .u64 s2.floor, v, .map (some c.ab)] 61) → Sq w' v sb2 s2.seqs → w'.heap[c.ab]? = some (.map es q) → Mp .u64 es f' → MA w' f' s2.ans → s2 = insC W.size c.s seq bs → s2.seqs.length ≤ 64 → (∀ y v, f' y = some v → Pv v) → PutPV Pv z W id seq bs (.int .i64 0) w' := by
      intro w' s2 v es q f' g1 g2 g3 g4 g5 g6 g7 g8 g9
      have hT : Fr w2 w' (footC c) := hF4.trans g1 (fun _ h => h) (fun x hx _ => by simp at hx; rcases hx with rfl | rfl <;> simp [footC])
      have hr2 : ∃ ds, w'.heap[sb2]? = some (row ds 28) := ⟨_, g1.get q4 (by simp; exact ⟨ne_of_ty q4 k1 (by decide), m4 q4 k2⟩)⟩
      refine ⟨by rw [hE], hZ2.trans hT (by simp [footP]) (fun x hx hlt => (hcf x hx).resolve_right (by omega)), updM (updM W.m id c) id ⟨c.cb, sb2, c.ab, s2⟩, ?_, fun y hy => by rw [updM_ne hy, updM_ne hy], ?_, fun d hd b hb => ?_, fun d hd es2 k2 f2 hm2 hM2 => ?_⟩
      · exact hW2.replace (c2 := ⟨c.cb, sb2, c.ab, s2⟩) hmc hT ⟨⟨v, g2, g3⟩, es, q, f', g4, g5, g6⟩ rfl rfl hsb2' (.inr hr2) g8
      · rw [updM_self]
        unfold putS
        rw [if_pos hE, ← hcs, ← g7]
        rfl
      · rw [updM_self] at hd
        cases hd
        simp [footC] at hb
        rcases hb with rfl | rfl | rfl
        · exact hcf _ (by simp [footC])
        · rcases hsb2' with e | e
          · rw [e]; exact hcf _ (by simp [footC])
          · exact .inr (Nat.le_trans hZ2.size e)
        · exact hcf _ (by simp [footC])
      · rw [updM_self] at hd
        cases hd
        dsimp only at hm2
        rw [g4] at hm2
        cases hm2
        rw [Mp.uniq hM2 g5]
        exact g9
    clear H
    have H := ((((Holds.start w4 [c.cb, c.ab]).add false k3 (by simp) (by simp)).add false q4 (by simpa using ne_of_ty q4 k3 (by decide)) (by simp)).add true k2 (by simpa using ⟨(m4 q4 k2).symm, (m4 k3 k2).symm⟩) (by simp)).add true k1 (by simpa using ⟨m4 k1 k2, ne_of_ty k1 q4 (by decide), ne_of_ty k1 k3 (by decide)⟩) (by simp)
    have k45 : ∀ b ∈ [c.cb, c.ab], No5 w4 b := fun b hb => by
      simp at hb
      rcases hb with rfl | rfl
      · exact No5.row k1 (by decide)
      · exact No5.map k2
    have hqc0 : scs2[soff2 + 0 * 1]? = some (.int .u64 (Q.getD 0 0)) := by
      rw [Nat.mul_one, q6.toGet (by omega)]
      simp [show 0 < Q.length by omega]
    refine Ops.pure H (X.nilCheck rfl) rfl rfl rfl ?_
    refine Ops.pure H (X.fieldAddr rfl rfl rfl rfl rfl rfl) rfl rfl rfl ?_
    (refine Ops.eff rfl (Y.store1 rfl rfl rfl rfl rfl rfl H Upd.head (by repeat (first | exact SetC.zero | apply SetC.succ)) ?_); intro w H0; clear H; have H := H0; clear H0)
    (refine Ops.nil (hK _ _ ?_); clear hK K)
    refine Run.seq ?_
    (refine Run.draw H [7] [0, 1, 2, 3, 4, 5, 6, 7] ?_; clear H; intro K hK w H)
    refine Draw.take0 rfl (X.move rfl) rfl rfl rfl (by decide +kernel) ?_
    refine Draw.take0 rfl (X.nilCheck rfl) rfl rfl rfl (by decide +kernel) ?_
    refine Draw.take0 rfl (X.fieldAddr rfl rfl rfl rfl rfl rfl) rfl rfl rfl (by decide +kernel) ?_
    refine Draw.take rfl (X.load1 rfl rfl rfl rfl Pick.head rfl) rfl rfl rfl (by decide +kernel) ?_
    refine Draw.take0 rfl (X.move rfl) rfl rfl rfl (by decide +kernel) ?_
    refine Draw.take0 rfl (X.move rfl) rfl rfl rfl (by decide +kernel) ?_
    have hzc := (hZ2.trans hF4 (U := footP W id) (by simp [footP]) (fun x hx hl => (hcf x hx).resolve_right (by omega))).size
    have hzc2 := H.fr.size
    refine Draw.eff rfl rfl (by decide +kernel) (Y.call rfl rfl (by first | assumption | decide +kernel) rfl (bclone_fresh _ _ bs (hV4.keep H.fr k45).bys (by omega)) rfl ?_)
    rintro v w5 ⟨hA5f, hf5⟩
    have hPva : Pv v := hPn v w5 (hA5f.low (by omega))
    have hA5 := hA5f.ans
    have hPcf := hPc ces ck cf a3 a4
    obtain ⟨va5, vcap5, rfl⟩ := hA5.slice
    replace H := H.ext hf5
    refine ⟨H.at_, ?_⟩
    have hF5 := H.fr
    have ma5 : MA w5 cf c.s.ans := ma4.keep hF5 k45
    replace H := H.anew (S' := [c.cb, c.ab]) (G' := [⟨_, _, true⟩, ⟨_, _, true⟩, ⟨_, _, false⟩, ⟨_, _, false⟩]) (by repeat constructor) (by simp)
    have hab5 := H.pick (.tail .head)
    have hcb5 := H.pick .head
    have k55 : ∀ b ∈ [c.cb, c.ab], No5 w5 b := fun b hb => by
      simp at hb
      rcases hb with rfl | rfl
      · exact No5.row hcb5 (by decide)
      · exact No5.map hab5
    skip
    refine Draw.last rfl rfl (by decide +kernel) (Y.mapUpdate (i := seq) a4 H (.tail .head) rfl rfl rfl rfl rfl rfl rfl ?_)
    intro es2 q2' w6 H6 hM6 _ _
    clear H
    have H := H6
    clear H6
    (refine Draw2.done (by decide +kernel) (hK _ _ ?_); clear hK K)
    refine Run.seq ?_
    refine Run.seq ?_
    (refine Run.draw H [] [0, 1, 2, 3, 4, 5, 6, 7, 8, 9] ?_; clear H; intro K hK w H)
    refine Draw.take0 rfl (X.move rfl) rfl rfl rfl (by decide +kernel) ?_
    refine Draw.take0 rfl (X.nilCheck rfl) rfl rfl rfl (by decide +kernel) ?_
    refine Draw.take0 rfl (X.fieldAddr rfl rfl rfl rfl rfl rfl) rfl rfl rfl (by decide +kernel) ?_
    refine Draw.take rfl (X.load1 rfl rfl rfl rfl (.tail .head) rfl) rfl rfl rfl (by decide +kernel) ?_
    refine Draw.take0 rfl (X.len_slice rfl rfl rfl) rfl rfl rfl (by decide +kernel) ?_
    refine Draw.take0 rfl (X.move rfl) rfl rfl rfl (by decide +kernel) ?_
    refine Draw.take0 rfl (X.nilCheck rfl) rfl rfl rfl (by decide +kernel) ?_
    refine Draw.take0 rfl (X.fieldAddr rfl rfl rfl rfl rfl rfl) rfl rfl rfl (by decide +kernel) ?_
    refine Draw.take rfl (X.load1 rfl rfl rfl rfl (.tail (.tail (.tail .head))) rfl) rfl rfl rfl (by decide +kernel) ?_
    refine Draw.take0 rfl (X.cmp rfl rfl rfl) rfl rfl rfl (by decide +kernel) ?_
    (refine Draw.done (by decide +kernel) (hK _ _ ?_); clear hK K)
    refine Run.cond_dec rfl (fun h87 => ?x3) (fun h87 => ?y3)
    case' y3 =>
      refine Run.skip ?_
      (refine Run.seq (Run.region ?_); intro K hK)
      refine Ops.pure H (X.assign rfl) rfl rfl rfl ?_
      (refine Ops.nil (hK _ _ ?_); clear hK K)
    case' x3 =>
      (refine Run.seq (Run.region ?_); intro K hK)
      refine Ops.pure H (X.move rfl) rfl rfl rfl ?_
      refine Ops.pure H (X.move rfl) rfl rfl rfl ?_
      refine Ops.pure H (X.nilCheck rfl) rfl rfl rfl ?_
      refine Ops.pure H (X.fieldAddr rfl rfl rfl rfl rfl rfl) rfl rfl rfl ?_
      refine Ops.pure H (X.load1 rfl rfl rfl rfl (.tail .head) rfl) rfl rfl rfl ?_
      refine Ops.pure H (X.indexAddrK (j := 0) rfl rfl rfl (by omega) rfl rfl rfl rfl) rfl rfl rfl ?_
      refine Ops.pure H (X.load1 rfl rfl rfl rfl (.tail (.tail .head)) (by assumption)) rfl rfl rfl ?_
      refine Ops.pure H (X.nilCheck rfl) rfl rfl rfl ?_
      refine Ops.pure H (X.fieldAddr rfl rfl rfl rfl rfl rfl) rfl rfl rfl ?_
      (refine Ops.eff rfl (Y.store1 rfl rfl rfl rfl rfl rfl H (.tail .head) (by repeat (first | exact SetC.zero | apply SetC.succ)) ?_); intro w H0; clear H; have H := H0; clear H0)
      (refine Ops.nil (hK _ _ ?_); clear hK K)
      refine Run.seq ?_
      (refine Run.draw H [8] [0, 1, 2, 3, 4, 5, 6, 7, 8] ?_; clear H; intro K hK w H)
      refine Draw.take0 rfl (X.move rfl) rfl rfl rfl (by decide +kernel) ?_
      refine Draw.take0 rfl (X.nilCheck rfl) rfl rfl rfl (by decide +kernel) ?_
      refine Draw.take0 rfl (X.fieldAddr rfl rfl rfl rfl rfl rfl) rfl rfl rfl (by decide +kernel) ?_
      refine Draw.take rfl (X.load1 rfl rfl rfl rfl (.tail .head) rfl) rfl rfl rfl (by decide +kernel) ?_
      refine Draw.take0 rfl (X.move rfl) rfl rfl rfl (by decide +kernel) ?_
      refine Draw.take0 rfl (X.nilCheck rfl) rfl rfl rfl (by decide +kernel) ?_
      refine Draw.take0 rfl (X.fieldAddr rfl rfl rfl rfl rfl rfl) rfl rfl rfl (by decide +kernel) ?_
      refine Draw.take rfl (X.load1 rfl rfl rfl rfl (.tail .head) rfl) rfl rfl rfl (by decide +kernel) ?_
    · have hqs : (W.size : Int) < (Q.length : Nat) := h87
      skip
      refine Draw.last rfl rfl (by decide +kernel) (Y.deleteN (i := Q.getD 0 0) hM6 H .head rfl rfl rfl rfl rfl rfl ?_)
      intro es3 w7 H7 hM7
      clear H
      have H := H7
      clear H7
      (refine Draw2.done (by decide +kernel) (hK _ _ ?_); clear hK K)
      (refine Run.region ?_; intro K hK)
      refine Ops.pure H (X.move rfl) rfl rfl rfl ?_
      refine Ops.pure H (X.move rfl) rfl rfl rfl ?_
      refine Ops.pure H (X.nilCheck rfl) rfl rfl rfl ?_
      refine Ops.pure H (X.fieldAddr rfl rfl rfl rfl rfl rfl) rfl rfl rfl ?_
      refine Ops.pure H (X.load1 rfl rfl rfl rfl (.tail .head) rfl) rfl rfl rfl ?_
      refine Ops.pure H (X.slice_l (j := 1) rfl rfl (by omega) rfl rfl rfl rfl) rfl rfl rfl ?_
      refine Ops.pure H (X.nilCheck rfl) rfl rfl rfl ?_
      refine Ops.pure H (X.fieldAddr rfl rfl rfl rfl rfl rfl) rfl rfl rfl ?_
      (refine Ops.eff rfl (Y.store1 rfl rfl rfl rfl rfl rfl H (.tail .head) (by repeat (first | exact SetC.zero | apply SetC.succ)) ?_); intro w H0; clear H; have H := H0; clear H0)
      (refine Ops.nil (hK _ _ (Run.seq (Run.region ?_))); clear hK K; intro K hK)
      refine Ops.pure H (X.assign rfl) rfl rfl rfl ?_
      (refine Ops.nil (hK _ _ ?_); clear hK K)
      refine Fn.ret1 HF rfl rfl ?_
      have htl : Q.tail.length = Q.length - 1 := by simp
      have hsub := q6.sub 1 (Q.length - 1) (by omega)
      refine fin _ ⟨Q.getD 0 0, Q.tail, updA (updA c.s.ans seq (some bs)) (Q.getD 0 0) none⟩ _ _ _ _ (hF5.trans H.fr (fun _ h => h) (fun _ h _ => h)) (H.pick (by repeat (first | exact .head | apply Pick.tail))) ⟨_, scap2 - 1, _, scs2, by rw [htl], by dsimp only; omega, by omega, .inr ⟨rfl, H.pick (by repeat (first | exact .head | apply Pick.tail)), ?_, ?_⟩⟩ (H.pick (by repeat (first | exact .head | apply Pick.tail))) hM7 (((ma5.keep H.fr k55).put seq (hA5.keep H.fr k55)).del _) ?_ ?_ (fun y u hu => by
        unfold upd at hu
        split at hu
        · cases hu
        · split at hu
          · cases hu; exact hPva
          · exact hPcf y u hu)
      · split <;> omega
      · dsimp only
        rw [htl]
        by_cases h1c : scap2 = 1
        · have hQ1 : Q.length = 1 := by omega
          rw [hQ1]
          have : Q.tail = [] := List.eq_nil_of_length_eq_zero (by omega)
          rw [this]
          exact .nil
        · rw [if_neg h1c]
          refine hsub.cast rfl rfl ?_
          rw [List.take_of_length_le (by simp), List.drop_one]
          cases Q <;> rfl
      · unfold insC
        rw [← hQ, if_pos hqs]
      · dsimp only
        omega
    · refine Fn.ret1 HF rfl rfl ?_
      have hqs : ¬ W.size < (Q.length : Nat) := h87
      refine fin _ ⟨c.s.floor, Q, updA c.s.ans seq (some bs)⟩ _ _ _ _ (hF5.trans H.fr (fun _ h => h) (fun _ h _ => h)) (H.pick (by repeat (first | exact .head | apply Pick.tail))) ⟨_, scap2, soff2, scs2, rfl, q1, q2, .inr ⟨rfl, H.pick (by repeat (first | exact .head | apply Pick.tail)), q5, q6⟩⟩ (H.pick (by repeat (first | exact .head | apply Pick.tail))) hM6 ((ma5.keep H.fr k55).put seq (hA5.keep H.fr k55)) ?_ ?_ (fun y u hu => by
        unfold upd at hu
        split at hu
        · cases hu; exact hPva
        · exact hPcf y u hu)
      · unfold insC
        rw [← hQ, if_neg hqs]
      · dsimp only
        omega
  · intro kk go
    cases hm : W.m id with
    | some c =>
      have hs : st W id = some c.s := by simp [st, hm]
      simp only [Option.map_some]
      (refine Run.seq (Run.region ?_); intro K hK)
      refine Ops.pure H (X.move rfl) rfl rfl rfl ?_
      refine Ops.pure H (X.ptrNil rfl rfl rfl rfl rfl) rfl rfl rfl ?_
      (refine Ops.nil (hK _ _ ?_); clear hK K)
      refine Run.cond_false rfl ?_
      refine Run.skip ?_
      have he := hE (by simp [hs])
      refine go c _ _ ⟨?_, hFr.mono (by simp), by rw [hs]; rfl, fun b hb => .inl (by unfold footP; rw [hm]; exact List.mem_cons_of_mem _ hb), he, fun es' k' f' hm' hM' => ?_⟩ (by repeat (first | exact trivial | refine ⟨rfl, ?_⟩))
      rotate_left
      · obtain ⟨_, ces, ck, cf, b3, b4, _⟩ := h.cl id c hm
        rw [hFr.get b3 (by simp)] at hm'
        cases hm'
        exact hPo c hm _ _ f' b3 hM'
      have e1 : updM W.m id c = W.m := by
        funext x
        unfold updM
        split
        · subst x; exact hm.symm
        · rfl
      have e2 : putN W.N (st W id) seq bs = W.N := by unfold putN; rw [if_neg (by simp [hs])]
      rw [e1, e2]
      exact h.ext hFr
    | none =>
      have hs : st W id = none := by simp [st, hm]
      simp only [Option.map_none]
      have h2w := hFr.get h2 (by simp)
      have H := ((Holds.start _ [W.mb]).add true h2w (by simp) (by simp)).add false (hFr.get h1 (by simp)) (by simpa using hne) (by simp)
      (refine Run.seq (Run.region ?_); intro K hK)
      refine Ops.pure H (X.move rfl) rfl rfl rfl ?_
      refine Ops.pure H (X.ptrNil rfl rfl rfl rfl rfl) rfl rfl rfl ?_
      (refine Ops.nil (hK _ _ ?_); clear hK K)
      refine Run.cond_true rfl ?_
      refine Run.seq ?_
      (refine Run.seq (Run.region ?_); intro K hK)
      refine Ops.pure H (X.move rfl) rfl rfl rfl ?_
      refine Ops.pure H (X.nilCheck rfl) rfl rfl rfl ?_
      refine Ops.pure H (X.fieldAddr rfl rfl rfl rfl rfl rfl) rfl rfl rfl ?_
      refine Ops.pure H (X.load1 rfl rfl rfl rfl Pick.head rfl) rfl rfl rfl ?_
      refine Ops.pure H (X.len_map rfl rfl rfl (.tail .head)) rfl rfl rfl ?_
      refine Ops.pure H (X.cmp rfl rfl rfl) rfl rfl rfl ?_
      (refine Ops.nil (hK _ _ ?_); clear hK K)
      refine Run.cond_dec rfl (fun h41 => ?x4) (fun h41 => ?y4)
      case' y4 =>
        refine Run.skip ?_
        (refine Run.seq (Run.region ?_); intro K hK)
        (refine Ops.eff rfl (Y.makeMap rfl H ?_); intro b42 w H0 hb42; clear H; have H := H0; clear H0)
        refine Ops.pure H (X.buildO rfl rfl rfl rfl rfl rfl) rfl rfl rfl ?_
        (refine Ops.eff rfl (Y.box rfl rfl rfl H ?_); intro b44 w H0 hb44; clear H; have H := H0; clear H0)
        refine Ops.pure H (X.assign rfl) rfl rfl rfl ?_
        (refine Ops.nil (hK _ _ ?_); clear hK K)
        (refine Run.region ?_; intro K hK)
        refine Ops.pure H (X.move rfl) rfl rfl rfl ?_
        refine Ops.pure H (X.nilCheck rfl) rfl rfl rfl ?_
        refine Ops.pure H (X.fieldAddr rfl rfl rfl rfl rfl rfl) rfl rfl rfl ?_
        refine Ops.pure H (X.load1 rfl rfl rfl rfl (.tail (.tail .head)) rfl) rfl rfl rfl ?_
        refine Ops.pure H (X.move rfl) rfl rfl rfl ?_
        refine Ops.pure H (X.move rfl) rfl rfl rfl ?_
      case' x4 =>
        (refine Run.seq (Run.region ?_); intro K hK)
        refine Ops.pure H (X.assign rfl) rfl rfl rfl ?_
        (refine Ops.nil (hK _ _ ?_); clear hK K)
      · rename_i h41
        refine Fn.ret1 HF rfl rfl ?_
        have he : putE W.N (st W id) seq bs = 200 := by unfold putE; rw [if_neg h15, if_neg (by omega), if_neg (fun h => h h27), if_pos ⟨by rw [hs]; rfl, by omega⟩]
        exact put_failV hPo h hFr he (by decide)
      · refine Ops.eff rfl (Y.mapUpdate (i := id) h3 H (.tail (.tail (.tail .head))) rfl rfl rfl rfl rfl rfl rfl ?_)
        intro es' k' w H hM' hsz' hst'
        (refine Ops.nil (hK _ _ ?_); clear hK K)
        have he := hE (by rintro ⟨_, h0⟩; omega)
        have e2 : putN W.N (st W id) seq bs = W.N + 1 := by unfold putN; rw [if_pos ⟨he, by rw [hs]; rfl⟩]
        have hfxn : f id = none := by rw [hfx, hm]; rfl
        rw [hfxn] at hsz'
        have hF2 : Fr z w [W.mb] := hFr.trans H.fr (by simp) (by simp)
        refine go ⟨b44, b44, b42, cs0⟩ _ _ ⟨?_, hF2, by rw [hs]; rfl, fun b hb => .inr ?_, he, fun es' k' f' hm' hM' y u hu => ?_⟩ (by repeat (first | exact trivial | refine ⟨rfl, ?_⟩))
        · rw [e2]
          exact Wn.more (c2 := ⟨b44, b44, b42, cs0⟩) h hm hF2 ⟨⟨_, H.pick (by repeat (first | exact .head | apply Pick.tail)), none, 0, 0, [], rfl, by simp [cs0], by omega, .inl ⟨rfl, rfl⟩⟩, _, _, _, H.pick (by repeat (first | exact .head | apply Pick.tail)), Mp.empty, fun x => .inl ⟨rfl, rfl⟩⟩ (Nat.le_trans hFr.size hb44) rfl (Nat.le_trans hFr.size hb42) (by simp [cs0]) (H.pick (by repeat (first | exact .head | apply Pick.tail))) hM' (by simpa [h4] using hsz') (hst' (h.stp _ _ h2)) h5 rfl
        · have := hFr.size
          simp [footC] at hb
          omega
        · dsimp only at hm'
          rw [H.pick (b := b42) (by repeat (first | exact .head | apply Pick.tail))] at hm'
          cases hm'
          obtain ⟨i, e, h1, _⟩ := hM'.has y u hu
          simp at h1
end Go.Proofs.Ytaneenahapdabaa

namespace Go.Proofs.Ytaneenahapdabaa
open Go
set_option maxRecDepth 20000
set_option maxHeartbeats 2000000
attribute [local irreducible] Run Ops Fn Draw Draw2 PureOp StepZ

/-- Put, of any window. -/
theorem pputv (Pv : Value → Prop) (w : World) (n : Nat) (W : WS) (id seq : Int) (V : Value) (bs : List Int) (hPo : ∀ c, W.m id = some c → ∀ es k f, w.heap[c.ab]? = some (.map es k) → Mp .u64 es f → ∀ y v, f y = some v → Pv v) (hPn : ∀ (v : Value) (w' : World), Fresh5 w' w.heap.size v bs → Pv v) (hW : Wn w W) (nw : W.size = n) (nn : W.N ≤ 1024) (hu : ∀ x s, st W x = some s → U64 x ∧ Full n s) (hV : Ans w V bs) (h1 : 1 ≤ n) (h2 : n ≤ 64) (hid : U64 id) (hq : U64 seq) (hb : Byt bs) :
    Fn env.P 7 [.pointer (some ⟨W.wb, 0, none⟩), .int .u64 id, .int .u64 seq, V] w fun v w' => v = .int .i64 (putE W.N (st W id) seq bs) ∧ ∃ W', W'.wb = W.wb ∧ Wn w' W' ∧ W'.size = n ∧ W'.N = putN W.N (st W id) seq bs ∧ W'.N ≤ 1024 ∧ (∀ x s, st W' x = some s → U64 x ∧ Full n s) ∧ st W' id = putS n W.N (st W id) seq bs ∧ (∀ y, y ≠ id → st W' y = st W y) ∧ Fr w w' (footP W id) ∧ (∀ b, Foot W' b → Foot W b ∨ w.heap.size ≤ b) ∧ (∀ y, y ≠ id → W'.m y = W.m y) ∧ ∀ c, W'.m id = some c → ∀ es k f, w'.heap[c.ab]? = some (.map es k) → Mp .u64 es f → ∀ y v, f y = some v → Pv v := by
  refine (put_pv w W id seq V bs Pv hPo hPn hW hV (by rw [nw]; omega) (by rw [nw]; omega) (st_len rfl (fun c hc => by rw [nw]; have := (hu id c hc).2.le; omega))).mono ?_
  rintro v w' ⟨e1, e2, m', e3, e4, e5, e6, e7⟩
  have hst : ∀ y, y ≠ id → st { W with m := m', N := putN W.N (st W id) seq bs } y = st W y := fun y hy => by
    show (m' y).map _ = (W.m y).map _
    rw [e4 y hy]
  have hst' : st { W with m := m', N := putN W.N (st W id) seq bs } id = putS n W.N (st W id) seq bs := by rw [← nw]; exact e5
  refine ⟨e1, { W with m := m', N := putN W.N (st W id) seq bs }, rfl, e3, nw, rfl, putN_le2 nn, fun y s hy => ?_, hst', hst, e2, fun b hb => PutPost.foot e4 e6 hb, e4, e7⟩
  by_cases e : y = id
  · subst e
    rw [hst'] at hy
    exact ⟨hid, putS_full (fun c hc => (hu y c hc).2) h1 hq hb s hy⟩
  · rw [hst y e] at hy
    exact hu y s hy
/-- A value that lies in none of these blocks. -/
def NotIn (S : List Nat) (v : Value) : Prop := ∀ n, 0 < n → ∀ b cap, v = .slice (some ⟨b, 0, none⟩) n cap → b ∉ S
theorem Ans.notIn {w w' : World} {S : List Nat} {v : Value} {xs : List Int} (h : Ans w v xs) (hf : Fr w w' S) (hv : NotIn S v) : Ans w' v xs := by
  obtain ⟨a, cap, b, cs, fz, rfl, h2, h3, h4, h5⟩ := h
  refine ⟨a, cap, b, cs, fz, rfl, h2, h3, fun hp => ?_, h5⟩
  obtain ⟨rfl, h6⟩ := h4 hp
  exact ⟨rfl, hf.get h6 (hv _ hp _ _ rfl)⟩
theorem Ans.old {w : World} {v : Value} {xs : List Int} {S : List Nat} (h : Ans w v xs) (hS : ∀ b ∈ S, w.heap.size ≤ b) : NotIn S v := by
  obtain ⟨a, cap, b, cs, fz, rfl, h2, h3, h4, h5⟩ := h
  intro n hn b' cap' e hb
  simp at e
  obtain ⟨e1, e2, _⟩ := e
  obtain ⟨h6, h7⟩ := h4 (by omega)
  rw [h6] at e1
  simp at e1
  subst e1
  have := lt_of_at h7
  have := hS _ hb
  omega
theorem Fresh5.notIn {w : World} {z : Nat} {v : Value} {xs : List Int} {S : List Nat} (h : Fresh5 w z v xs) (hS : ∀ b ∈ S, b < z) : NotIn S v := by
  obtain ⟨a, cap, rfl, h1, ⟨rfl, rfl⟩ | ⟨b, cs, rfl, h2, h3, h4, h5, h6⟩⟩ := h
  · intro n hn b' cap' e hb
    simp at e
    omega
  · intro n hn b' cap' e hb
    simp at e
    obtain ⟨rfl, _⟩ := e
    have := hS _ hb
    omega
theorem Wn.keepV {w w' : World} {W : WS} {S : List Nat} (h : Wn w W) (hf : Fr w w' S) (hS : ∀ b ∈ S, ¬ Foot W b) (hv : ∀ x c, W.m x = some c → ∀ es k f, w.heap[c.ab]? = some (.map es k) → Mp .u64 es f → ∀ y v, f y = some v → NotIn S v) : Wn w' W := by
  have k : ∀ b, Foot W b → b ∉ S := fun b hb hm => hS b hm hb
  obtain ⟨es, q, f, a1, a2⟩ := h.mp
  have kc : ∀ x c, W.m x = some c → c.cb ∉ S ∧ c.sb ∉ S ∧ c.ab ∉ S := fun x c hx =>
    ⟨k _ (.inr (.inr ⟨x, c, hx, by simp [footC]⟩)), k _ (.inr (.inr ⟨x, c, hx, by simp [footC]⟩)), k _ (.inr (.inr ⟨x, c, hx, by simp [footC]⟩))⟩
  refine ⟨hf.get h.at_ (k _ (.inl rfl)), ⟨es, q, f, hf.get a1 (k _ (.inr (.inl rfl))), a2⟩, fun x c hx => ?_,
    fun x c hx => (h.real x c hx).imp (fun e => e) (fun ⟨ds, hd⟩ => ⟨ds, hf.get hd (kc x c hx).2.1⟩), h.ne, h.mb, h.len, fun es' k' h' => by rw [hf.get a1 (k _ (.inr (.inl rfl)))] at h'; cases h'; exact h.stp es q a1⟩
  obtain ⟨⟨v, b1, b2⟩, ces, ck, cf, b3, b4, b5⟩ := h.cl x c hx
  refine ⟨⟨v, hf.get b1 (kc x c hx).1, b2.keep hf (fun hm => absurd hm (kc x c hx).2.1)⟩, ces, ck, cf, hf.get b3 (kc x c hx).2.2, b4, fun y => ?_⟩
  rcases b5 y with e | ⟨v, xs, e1, e2, e3⟩
  · exact .inl e
  · exact .inr ⟨v, xs, e1, e2, e3.notIn hf (hv x c hx ces ck cf b3 b4 y v e1)⟩
/-- What stood before lies in no newer block. -/
theorem Wn.old {w0 w1 : World} {W : WS} {S U : List Nat} (h : Wn w0 W) (hf : Fr w0 w1 U) (hS : ∀ b ∈ S, w0.heap.size ≤ b) {x : Int} {c : CL} (hx : W.m x = some c) (hc : c.ab ∉ U) : ∀ es k f, w1.heap[c.ab]? = some (.map es k) → Mp .u64 es f → ∀ y v, f y = some v → NotIn S v := by
  intro es k f hm hM y v hy
  obtain ⟨_, ces, ck, cf, b3, b4, b5⟩ := h.cl x c hx
  rw [hf.get b3 hc] at hm
  cases hm
  rw [Mp.uniq hM b4] at hy
  rcases b5 y with e | ⟨v', xs, e1, e2, e3⟩
  · rw [e.1] at hy; cases hy
  · rw [e1] at hy
    cases hy
    exact e3.old hS
theorem does_put (z00 z : World) (pb : Nat) (W : WS) (db n : Nat) (ids : List Int) (client seq : Int) (V : Value) (xs : List Int) (h : PR z00.heap.size z pb W db n ids) (hF0 : Fr z00 z []) (hV : Bys z00 V xs) (hl : xs.length ≤ 140737488355327) (hc : U64 client) (hq : U64 seq) (hb : Byt xs) :
    Fn env.P 12 [.pointer (some ⟨pb, 0, none⟩), .agg #[.int .i64 1, .int .u64 client, .int .u64 seq, V]] z (Does z00.heap.size z pb W db n) := by
  have hV0 := hV
  obtain ⟨xa, xcap, _, _, _, _, _, rfl, _⟩ := hV
  have hids : ids.length ≤ 1024 := by rw [h.len]; exact h.nn
  have H := (Holds.start z []).add false h.row (by simp) (by simp)
  have HF := Try.func12; refine Fn.enter Try.func12 Try.ntmps12 rfl rfl rfl ?_
  (refine Run.seq (Run.region ?_); intro K hK)
  (refine Ops.eff rfl (Y.box rfl rfl rfl H ?_); intro b3 w H0 hb3; clear H; have H := H0; clear H0)
  refine Ops.pure H (X.assign rfl) rfl rfl rfl ?_
  refine Ops.pure H (X.assign rfl) rfl rfl rfl ?_
  (refine Ops.nil (hK _ _ ?_); clear hK K)
  refine Run.seq ?_
  (refine Run.seq (Run.region ?_); intro K hK)
  refine Ops.pure H (X.fieldAddr rfl rfl rfl rfl rfl rfl) rfl rfl rfl ?_
  refine Ops.pure H (X.load1 rfl rfl rfl rfl Pick.head rfl) rfl rfl rfl ?_
  (refine Ops.nil (hK _ _ ?_); clear hK K)
  refine Run.block ?_
  (refine Run.seq (Run.region ?_); intro K hK)
  refine Ops.pure H (X.cmp rfl rfl rfl) rfl rfl rfl ?_
  refine Ops.pure H (X.assign rfl) rfl rfl rfl ?_
  (refine Ops.nil (hK _ _ ?_); clear hK K)
  refine Run.cond_false rfl ?_
  (refine Run.seq (Run.region ?_); intro K hK)
  refine Ops.pure H (X.cmp rfl rfl rfl) rfl rfl rfl ?_
  refine Ops.pure H (X.assign rfl) rfl rfl rfl ?_
  (refine Ops.nil (hK _ _ ?_); clear hK K)
  refine Run.cond_true rfl ?_
  (refine Run.seq (Run.region ?_); intro K hK)
  refine Ops.pure H (X.fieldAddr rfl rfl rfl rfl rfl rfl) rfl rfl rfl ?_
  refine Ops.pure H (X.load1 rfl rfl rfl rfl Pick.head rfl) rfl rfl rfl ?_
  have hza := H.fr.size
  have hzz := hF0.size
  have hb3 := H.pick (b := b3) (by repeat (first | exact .head | apply Pick.tail))
  have Fa := H.fr
  have hWa := h.pw.ext Fa
  refine Ops.eff rfl (Y.call rfl rfl (by first | assumption | decide +kernel) rfl (own_one _ _ xs (hV0.ext (hF0.then H.fr)) hl) rfl ?_)
  rintro v w1 ⟨nb, ncs, rfl, hnb, hncl, hnC, hnz, hf1⟩
  have F1 := Fa.then hf1
  have hz1 := hf1.size
  have r1 := F1.get h.row (by simp)
  have r3 := hf1.get hb3 (by simp)
  have n3p : b3 ≠ pb := ne_of_ty r3 r1 (by decide)
  have hnl := lt_of_at hnb
  have hA1 : Ans w1 (.slice (some ⟨nb, 0, none⟩) xs.length (xs.length + 2)) xs := ⟨_, _, nb, ncs, (0, 0), rfl, by omega, by omega, fun _ => ⟨rfl, hnb⟩, hnC⟩
  clear H
  have H := ((Holds.start w1 []).add false r1 (by simp) (by simp)).add false r3 (by simpa using n3p) (by simp)
  refine Ops.pure H (X.assign rfl) rfl rfl rfl ?_
  (refine Ops.nil (hK _ _ ?_); clear hK K)
  refine Run.seq ?_
  (refine Run.draw H [9] [0, 1, 2, 3, 4, 5, 6, 7, 8, 9, 10] ?_; clear H; intro K hK w H)
  refine Draw.take0 rfl (X.move rfl) rfl rfl rfl (by decide +kernel) ?_
  refine Draw.take0 rfl (X.nilCheck rfl) rfl rfl rfl (by decide +kernel) ?_
  refine Draw.take0 rfl (X.fieldAddr rfl rfl rfl rfl rfl rfl) rfl rfl rfl (by decide +kernel) ?_
  refine Draw.take rfl (X.load1 rfl rfl rfl rfl (.tail .head) rfl) rfl rfl rfl (by decide +kernel) ?_
  refine Draw.take0 rfl (X.fieldAddr rfl rfl rfl rfl rfl rfl) rfl rfl rfl (by decide +kernel) ?_
  refine Draw.take rfl (X.load1 rfl rfl rfl rfl Pick.head rfl) rfl rfl rfl (by decide +kernel) ?_
  refine Draw.take0 rfl (X.fieldAddr rfl rfl rfl rfl rfl rfl) rfl rfl rfl (by decide +kernel) ?_
  refine Draw.take rfl (X.load1 rfl rfl rfl rfl Pick.head rfl) rfl rfl rfl (by decide +kernel) ?_
  refine Draw.take0 rfl (X.move rfl) rfl rfl rfl (by decide +kernel) ?_
  have Fw := H.fr
  have F1w := F1.then Fw
  have hzw := Fw.size
  have hnbw := Fw.get hnb (by simp)
  have hpw := h.pw.ext F1w
  have rw1 := Fw.get r1 (by simp)
  have rw3 := Fw.get r3 (by simp)
  refine Draw.last rfl rfl (by decide +kernel) (Y.call rfl rfl (by first | assumption | decide +kernel) rfl (pputv (NotIn [nb]) _ n W client seq _ xs (fun c hcm => hWa.old (hf1.then H.fr) (by simpa using hnz) hcm (by simp)) (fun v w' hfr => hfr.notIn (by have := H.fr.size; simp; omega)) hpw h.nw h.nn h.u (hA1.keep H.fr (by simp)) h.n1 h.n2 hc hq hb) rfl ?_)
  rintro v w2 ⟨rfl, W', g1, g2, g3, g4, g5, g6, g7, g8, g9, g10, g11, g12⟩
  have q1 := g9.get rw1 (footP_ty hpw rw1 (by decide) (by decide))
  have q3 := g9.get rw3 (footP_ty hpw rw3 (by decide) (by decide))
  have qn := g9.get hnbw (footP_ty hpw hnbw (by decide) (by decide))
  have hf5 : Fresh5 w2 nb (.slice (some ⟨nb, 0, none⟩) xs.length (xs.length + 2)) xs := ⟨_, _, rfl, by omega, .inr ⟨nb, ncs, rfl, Nat.le_refl _, by omega, qn, hncl, hnC⟩⟩
  clear H
  have H := ((Holds.start w2 []).add false q1 (by simp) (by simp)).add false q3 (by simpa using n3p) (by simp)
  refine Draw2.take rfl (X.assign rfl) rfl rfl rfl (by decide +kernel) ?_
  (refine Draw2.done (by decide +kernel) (hK _ _ ?_); clear hK K)
  (refine Run.seq (Run.region ?_); intro K hK)
  refine Ops.pure H (X.move rfl) rfl rfl rfl ?_
  have F2w := H.fr
  refine Ops.eff rfl (Y.call rfl rfl (by first | assumption | decide +kernel) rfl (spoil_any _ nb _ xs (hf5.ext H.fr) hl) rfl ?_)
  rintro v w3 ⟨S, hf3, hS⟩
  have hS1 : ∀ b ∈ S, b ∈ [nb] := fun b hb => by
    obtain ⟨_, m, c, e⟩ := hS b hb
    simp at e
    simp [e.1]
  have F23 : Fr w2 w3 [nb] := F2w.trans (hf3.mono (fun b hb _ => hS1 b hb)) (by simp) (fun x hx _ => hx)
  have hW3 : Wn w3 W' := g2.keepV F23 (by simpa using g2.notFoot qn (by decide) (by decide) (by decide)) (fun x c hx => by
    by_cases e : x = client
    · subst e
      exact g12 c hx
    · rw [g11 x e] at hx
      refine hWa.old ((hf1.then Fw).trans g9 (U := footP W client) (by simp) (fun x hx _ => hx)) (by simpa using hnz) hx ?_
      unfold footP
      intro hm
      rcases List.mem_cons.1 hm with hm | hm
      · exact hpw.mb x c hx hm
      · cases hc : W.m client with
        | none => rw [hc] at hm; cases hm
        | some c' =>
          rw [hc] at hm
          exact (hpw.apart (fun e' => e e'.symm) hc hx).2.2 hm)
  have Fz2 : Fr z w2 (footP W client) := F1w.trans g9 (by simp) (fun x hx _ => hx)
  have Fz3 : Fr z w3 (footP W client) := Fz2.trans F23 (fun _ h => h) (fun x hx hl => by simp at hx; omega)
  have hfz : ∀ b ∈ footP W client, NoR z b ∧ b ≠ db := fun b hb => ⟨h.pw.noR (footP_foot hb), fun e => by
    obtain ⟨dv, hd, _⟩ := h.rd
    subst e
    exact footP_ty h.pw hd (by decide) (by decide) hb⟩
  have hRD3 := h.rd.keep Fz3 (fun hm => (hfz db hm).2 rfl) (fun b hb => (hfz b hb).1)
  have hF3 : Fr z00 w3 [] := hF0.trans Fz3 (by simp) (fun x hx hl => by have := h.gw x (footP_foot hx); omega)
  have s1 := F23.get q1 (by simpa using (ne_of_ty qn q1 (by decide)).symm)
  have s3 := F23.get q3 (by simpa using (ne_of_ty qn q3 (by decide)).symm)
  clear H
  have H := ((Holds.start w3 []).add false s1 (by simp) (by simp)).add false s3 (by simpa using n3p) (by simp)
  (refine Ops.nil (hK _ _ ?_); clear hK K)
  refine Run.seq ?_
  (refine Run.draw H [12] [0, 1, 2, 3, 4, 5, 6, 7, 8, 9, 10, 11, 12, 13, 14, 15] ?_; clear H; intro K hK w H)
  refine Draw.take0 rfl (X.move rfl) rfl rfl rfl (by decide +kernel) ?_
  refine Draw.take0 rfl (X.move rfl) rfl rfl rfl (by decide +kernel) ?_
  refine Draw.take0 rfl (X.move rfl) rfl rfl rfl (by decide +kernel) ?_
  refine Draw.take0 rfl (X.nilCheck rfl) rfl rfl rfl (by decide +kernel) ?_
  refine Draw.take0 rfl (X.fieldAddr rfl rfl rfl rfl rfl rfl) rfl rfl rfl (by decide +kernel) ?_
  refine Draw.take rfl (X.load1 rfl rfl rfl rfl (.tail .head) rfl) rfl rfl rfl (by decide +kernel) ?_
  refine Draw.take0 rfl (X.fieldAddr rfl rfl rfl rfl rfl rfl) rfl rfl rfl (by decide +kernel) ?_
  refine Draw.take rfl (X.load1 rfl rfl rfl rfl Pick.head rfl) rfl rfl rfl (by decide +kernel) ?_
  refine Draw.take0 rfl (X.fieldAddr rfl rfl rfl rfl rfl rfl) rfl rfl rfl (by decide +kernel) ?_
  refine Draw.take rfl (X.load1 rfl rfl rfl rfl Pick.head rfl) rfl rfl rfl (by decide +kernel) ?_
  refine Draw.take0 rfl (X.fieldAddr rfl rfl rfl rfl rfl rfl) rfl rfl rfl (by decide +kernel) ?_
  refine Draw.take rfl (X.load1 rfl rfl rfl rfl Pick.head rfl) rfl rfl rfl (by decide +kernel) ?_
  refine Draw.last rfl rfl (by decide +kernel) (Y.call rfl rfl (by first | assumption | decide +kernel) rfl (dput_any _ db n ids (st W) client seq _ xs (hRD3.ext H.fr) h.up h.mem (fun x s hx => (h.u x s hx).2) h.n1 h.n2 hids (hV0.ext (hF3.then H.fr)) hq.1) rfl ?_)
  rintro v w4 ⟨rfl, hf4, ids', m', hRD4, hup', hmem', hm1', hm2', hlen'⟩
  rw [h.len] at hm1' hlen' ⊢
  have F34 := H.fr.trans (U := [db]) hf4 (by simp) (fun x hx _ => hx)
  have hst : st W' = m' := funext fun y => by
    by_cases e : y = client
    · subst e
      rw [g7, hm1']
    · rw [g8 y e, hm2' y e]
  obtain ⟨dv, hdd, _⟩ := h.rd
  have hd3 := Fz3.get hdd (fun hm => (hfz db hm).2 rfl)
  have s4 := F34.get s1 (by simpa using ne_of_ty s1 hd3 (by decide))
  have hW4 := hW3.keepS F34 (by simpa using hW3.notFoot hd3 (by decide) (by decide) (by decide)) (by simpa using No5.row hd3 (by decide))
  clear H
  have H := (Holds.start w4 []).add false s4 (by simp) (by simp)
  refine Draw2.take rfl (X.cmp rfl rfl rfl) rfl rfl rfl (by decide +kernel) ?_
  refine Draw2.take rfl (X.assign rfl) rfl rfl rfl (by decide +kernel) ?_
  refine Draw2.take rfl (X.assign rfl) rfl rfl rfl (by decide +kernel) ?_
  (refine Draw2.done (by decide +kernel) (hK _ _ ?_); clear hK K)
  refine Fn.ret2 HF rfl rfl rfl ?_
  have Fz4 : Fr z w4 (db :: footP W client) := Fz3.trans F34 (fun x hx => List.mem_cons_of_mem _ hx) (fun x hx _ => by simp at hx; simp [hx])
  rw [decide_eq_true rfl]
  refine ⟨pb, W', db, n, ids', rfl, ⟨by rw [g1]; exact H.fr.get s4 (by simp), hW4.ext H.fr, fun b hb => ?_, g3, h.n1, h.n2, g5, g6, by rw [hst]; exact hRD4.ext H.fr, hup', by rw [hst]; exact hmem', by rw [hlen', g4], h.pz, h.dz⟩, .inl ⟨rfl, rfl, ⟨db :: footP W client, Fz4.trans H.fr (fun _ h => h) (by simp), fun b hb => ?_⟩, fun b hb => ?_⟩⟩
  · rcases g10 b hb with h' | h'
    · exact h.gw b h'
    · omega
  · rcases List.mem_cons.1 hb with h' | h'
    · exact .inl h'
    · exact .inr (footP_foot h')
  · rcases g10 b hb with h' | h'
    · exact .inl h'
    · exact .inr (by omega)
end Go.Proofs.Ytaneenahapdabaa
